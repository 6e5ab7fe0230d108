/- Parts of the proof: B.Leads, AM.Map, B.Cyc, B.Most, B.Steps. -/
import Derived.Test.YtebogdeaiecldaaAmDraw4
import Derived.Test.YtebogdeaiecldaaTxTabB
/- Package bound: what leads to what. -/
namespace Go.AM.B
open Go.Proofs.Ytebogdeaiecldaa.Tab
noncomputable section
set_option linter.unusedVariables false
set_option maxHeartbeats 4000000
def T := tabOf vfs

abbrev Th := Int × Int
def encP (p : Th) : List AV := [.int .i64 p.1, .int .i64 p.2]
structure Solv where
  tables : List (Int × List Int)
  blocks : List (Int × List Instr)
  groups : List Group
  all : List Th
def Solv.group (s : Solv) (id : Int) : Option Group := s.groups.find? fun t => t.id == id
def Solv.buckets (s : Solv) (id : Int) : List Bucket := ((s.group id).map (·.buckets.l)).getD []
def instrLead (i : Instr) : List Th := if i.op == 13 then [(0, i.n)] else if i.op == 14 then [(2, i.n)] else []
def Solv.leads (s : Solv) (x : Th) : List Th :=
  if x.1 == 0 then (lookL s.tables x.2).map fun b => (1, b)
  else if x.1 == 1 then (lookL s.blocks x.2).flatMap instrLead
  else (s.buckets x.2).map fun b => (1, b.block)
structure IsSolv (s : Solv) (a : AV) : Prop where
  small : (∀ t ∈ s.tables, t.2.length < 1000000) ∧ (∀ t ∈ s.blocks, t.2.length < 1000000) ∧ (∀ t ∈ s.groups, t.buckets.l.length < 1000000) ∧ s.all.length < 1000000
  is : ∃ tv bv al, a = .pptr [.pmap (s.tables.map fun t => .int .i64 t.1) tv, .pmap (s.blocks.map fun t => .int .i64 t.1) bv, .pmap (s.groups.map fun t => .int .i64 t.id) (s.groups.map fun g => .agg g.enc), al] 0 ∧
    All2 (fun t v => SlV 1 (t.2.flatMap encI) t.2.length v) s.tables tv ∧ All2 (fun t v => SlV 7 (t.2.flatMap Instr.enc) t.2.length v) s.blocks bv ∧ SlV 2 (s.all.flatMap encP) s.all.length al


def kindOf (g : Option Group) : Int := (g.map (·.kind)).getD 0
def zeroG : AV := .agg [.int .i64 0, .int .u8 0, .int .i64 0, .nils]
theorem WL.lookup_grp {E : Env} {H : Heap} {nr i dd : Nat} {dr : DR} {g : Option (Nat × Bool)} {md : Mode} {ops : List VO} {N : Nat} {K : St → Prop} {s : Solv} {x y : Operand} {n : Int}
    (hg : wantedA E g = some true) (hx : evA E x = some (.pmap (s.groups.map fun x => .int .i64 x.id) (s.groups.map fun g => .agg g.enc))) (hi : evA E y = some (.int .i64 n))
    (hc : okR dr i ([], []) ⟨some dd, g, .lookup (.one (.int .i64)) zeroG x y false, md⟩ = true)
    (h1 : ∀ a b v, SlV 2 ((s.buckets n).flatMap Bucket.enc) (s.buckets n).length v → WL T nr (logR dr i ([], [])) (i + 1) ops ⟨E.put dd (.v (.agg [.int .i64 a, .int .u8 (kindOf (s.group n)), .int .i64 b, v])), H, N⟩ K) :
    WL T nr dr i (⟨some dd, g, .lookup (.one (.int .i64)) zeroG x y false, md⟩ :: ops) ⟨E, H, N⟩ K := by
  refine WL.lookup_p (f := fun g : Group => g.id) (R := fun g v => v = AV.agg g.enc) hg hx hi ⟨by simp, fun i h1 h2 => by simp⟩ hc (fun t v hf hm hR => ?_) (fun hf => ?_)
  · subst hR
    have := h1 t.id t.field (t.buckets.av 2 Bucket.enc) (by simp only [Solv.buckets, Solv.group, hf, Option.map_some, Option.getD_some]; exact SlV.p ..)
    simp only [kindOf, Solv.group, hf, Option.map_some, Option.getD_some] at this
    exact this
  · have := h1 0 0 .nils (by simp only [Solv.buckets, Solv.group, hf, Option.map_none, Option.getD_none]; exact SlV.nil 2)
    simp only [kindOf, Solv.group, hf, Option.map_none, Option.getD_none] at this
    exact this
theorem buckets_le {s : Solv} {m : Nat} (hl : ∀ t ∈ s.groups, t.buckets.l.length < m) (hm : 0 < m) (n : Int) : (s.buckets n).length < m := by
  unfold Solv.buckets Solv.group
  cases h : s.groups.find? (fun t => t.id == n) with
  | none => simpa using hm
  | some t => simpa using hl t (List.mem_of_find?_eq_some h)
theorem leads_len (L : List Instr) : (L.flatMap instrLead).length ≤ L.length := by
  induction L with
  | nil => simp
  | cons a l ih =>
    simp only [List.flatMap_cons, List.length_append, List.length_cons]
    have : (instrLead a).length ≤ 1 := by unfold instrLead; split <;> (try split) <;> simp
    omega
theorem leads_c (s : Solv) (a : AV) (hs : IsSolv s a) (x : Th) : ∃ v, VC1 T 43 [a, .agg (encP x)] v ∧ SlV 2 ((s.leads x).flatMap encP) (s.leads x).length v := by
  obtain ⟨⟨sm1, sm2, sm3, sm4⟩, tv, bv, al, rfl, htv, hbv, hal⟩ := hs
  obtain ⟨k, id⟩ := x
  suffices H : W T [.code v43.body] ⟨initEnv 0 [.pptr [.pmap (s.tables.map fun t => .int .i64 t.1) tv, .pmap (s.blocks.map fun t => .int .i64 t.1) bv, .pmap (s.groups.map fun t => .int .i64 t.id) (s.groups.map fun g => .agg g.enc), al] 0, .agg (encP (k, id))], Heap.empty, 0⟩ fun s' => ∃ v, OwnS s'.heap 2 ((s.leads (k, id)).flatMap encP) (s.leads (k, id)).length v ∧ readRess s'.env s'.heap v43.results = some [v] by
    obtain ⟨s', h1, v, h2, h3⟩ := H
    obtain ⟨v', h4, h5⟩ := h2.pur 39 (fun a ha => by
      simp only [List.mem_flatMap, encP, List.mem_cons, List.not_mem_nil, or_false] at ha
      obtain ⟨p, _, rfl | rfl⟩ := ha <;> rfl)
    exact ⟨v', VC1.of (vf := v43) rfl rfl ⟨s', h1, [v], h3, h4⟩, h5⟩
  unfold v43
  repeat (first | refine W.seq ?_ | refine W.ops ?_ | refine WL.off rfl rfl ?_ | refine WL.val rfl rfl rfl ?_ | refine WL.nil ?_ | refine W.block ?_ | refine W.outBlock ?_ | refine W.skip ?_ | refine W.exit rfl ?_ | refine WL.box rfl rfl rfl ?_ | refine W.opsD ?_ | refine W.condT rfl ?_ | refine W.condF rfl ?_)
  refine W.cond rfl (fun hb => ?_) (fun hb => ?_)
  · have hk : k = 0 := by simpa using hb
    subst hk
    repeat (first | refine W.seq ?_ | refine W.ops ?_ | refine WL.off rfl rfl ?_ | refine WL.val rfl rfl rfl ?_ | refine WL.nil ?_ | refine W.block ?_ | refine W.outBlock ?_ | refine W.skip ?_ | refine W.exit rfl ?_ | refine WL.box rfl rfl rfl ?_ | refine W.opsD ?_ | refine W.condT rfl ?_ | refine W.condF rfl ?_)
    refine WL.lookup_sl rfl rfl rfl htv rfl (fun v hR => ?_)
    have e : s.leads (0, id) = (lookL s.tables id).map fun b => (1, b) := rfl
    have hlen := lookL_le sm1 (by decide) id
    rw [e]
    dsimp only at hR ⊢
    generalize lookL s.tables id = L at *
    · refine WL.val rfl (aop_len_sl rfl hR) rfl ?_
      repeat (first | refine W.seq ?_ | refine W.ops ?_ | refine WL.off rfl rfl ?_ | refine WL.val rfl rfl rfl ?_ | refine WL.nil ?_ | refine W.block ?_ | refine W.outBlock ?_ | refine W.skip ?_ | refine W.exit rfl ?_ | refine WL.box rfl rfl rfl ?_ | refine W.opsD ?_ | refine W.condT rfl ?_ | refine W.condF rfl ?_)
      refine W.loopE (E0 := envOf [(5, _), (42, _), (43, _), (44, _)]) rfl (β := Nat × AV) (fun b => [(5, .v b.2), (44, .v (.int .i64 b.1))])
        (fun b h n => b.1 ≤ L.length ∧ OwnS h 2 (((L.take b.1).map fun b => ((1 : Int), b)).flatMap encP) ((L.take b.1).map fun b => ((1 : Int), b)).length b.2 ∧ Fresh h n) (fun b => L.length - b.1) (0, .nils) rfl ⟨by simp, OwnS.nil _ _, Fresh.empty _⟩ ?_
      rintro ⟨i, w⟩ h n ⟨hi, hw, hfr⟩ ih
      dsimp only at hi hw
      have hwl : ((L.take i).map fun b => ((1 : Int), b)).length ≤ 1000000 := by simp; omega
      repeat (first | refine W.seq ?_ | refine W.ops ?_ | refine WL.off rfl rfl ?_ | refine WL.val rfl rfl rfl ?_ | refine WL.nil ?_ | refine W.block ?_ | refine W.outBlock ?_ | refine W.skip ?_ | refine W.exit rfl ?_ | refine WL.box rfl rfl rfl ?_ | refine W.opsD ?_ | refine W.condT rfl ?_ | refine W.condF rfl ?_)
      refine W.cond rfl (fun hb2 => ?_) (fun hb2 => ?_)
      · have hlt : i < L.length := by simpa using hb2
        repeat (first | refine W.seq ?_ | refine W.ops ?_ | refine WL.off rfl rfl ?_ | refine WL.val rfl rfl rfl ?_ | refine WL.nil ?_ | refine W.block ?_ | refine W.outBlock ?_ | refine W.skip ?_ | refine W.exit rfl ?_ | refine WL.box rfl rfl rfl ?_ | refine W.opsD ?_ | refine W.condT rfl ?_ | refine W.condF rfl ?_)
        refine WL.val rfl (aop_iaddr_sl rfl hR rfl hlt) rfl ?_
        refine WL.val rfl (aop_load_el (enc := encI) (o := 0) rfl (fun _ => rfl) hlt (by decide) rfl) rfl ?_
        repeat (first | refine W.seq ?_ | refine W.ops ?_ | refine WL.off rfl rfl ?_ | refine WL.val rfl rfl rfl ?_ | refine WL.nil ?_ | refine W.block ?_ | refine W.outBlock ?_ | refine W.skip ?_ | refine W.exit rfl ?_ | refine WL.box rfl rfl rfl ?_ | refine W.opsD ?_ | refine W.condT rfl ?_ | refine W.condF rfl ?_)
        refine WL.val rfl (aop_move_nj rfl hw.nj) rfl ?_
        repeat (first | refine W.seq ?_ | refine W.ops ?_ | refine WL.off rfl rfl ?_ | refine WL.val rfl rfl rfl ?_ | refine WL.nil ?_ | refine W.block ?_ | refine W.outBlock ?_ | refine W.skip ?_ | refine W.exit rfl ?_ | refine WL.box rfl rfl rfl ?_ | refine W.opsD ?_ | refine W.condT rfl ?_ | refine W.condF rfl ?_)
        refine WL.push (new := encP (1, L[i])) rfl rfl rfl rfl rfl rfl (by decide) rfl hw (hfr.mono (by omega)) rfl (by omega) rfl (fun _ _ _ => rfl) (fun rd wr H' g1 g2 g3 => ?_)
        repeat (first | refine W.seq ?_ | refine W.ops ?_ | refine WL.off rfl rfl ?_ | refine WL.val rfl rfl rfl ?_ | refine WL.nil ?_ | refine W.block ?_ | refine W.outBlock ?_ | refine W.skip ?_ | refine W.exit rfl ?_ | refine WL.box rfl rfl rfl ?_ | refine W.opsD ?_ | refine W.condT rfl ?_ | refine W.condF rfl ?_)
        refine ih (i + 1, _) _ _ _ ⟨hlt, ?_, g3 _ (by omega)⟩ (by simp only; omega) (by rw [← wrap64_nat (k := i) (by omega)]; rfl)
        rw [map_snoc hlt, List.flatMap_append, List.length_append]
        exact g1
      · have hge : i = L.length := by simp at hb2; omega
        subst hge
        repeat (first | refine W.seq ?_ | refine W.ops ?_ | refine WL.off rfl rfl ?_ | refine WL.val rfl rfl rfl ?_ | refine WL.nil ?_ | refine W.block ?_ | refine W.outBlock ?_ | refine W.skip ?_ | refine W.exit rfl ?_ | refine WL.box rfl rfl rfl ?_ | refine W.opsD ?_ | refine W.condT rfl ?_ | refine W.condF rfl ?_)
        refine WL.val rfl (aop_move_nj rfl hw.nj) rfl ?_
        refine WL.val rfl (aop_move_nj rfl hw.nj) rfl ?_
        repeat (first | refine W.seq ?_ | refine W.ops ?_ | refine WL.off rfl rfl ?_ | refine WL.val rfl rfl rfl ?_ | refine WL.nil ?_ | refine W.block ?_ | refine W.outBlock ?_ | refine W.skip ?_ | refine W.exit rfl ?_ | refine WL.box rfl rfl rfl ?_ | refine W.opsD ?_ | refine W.condT rfl ?_ | refine W.condF rfl ?_)
        exact W.ret ⟨w, by simpa only [List.take_length] using hw, res1 rfl hw.nj⟩
  · have hk : k ≠ 0 := by simpa using hb
    repeat (first | refine W.seq ?_ | refine W.ops ?_ | refine WL.off rfl rfl ?_ | refine WL.val rfl rfl rfl ?_ | refine WL.nil ?_ | refine W.block ?_ | refine W.outBlock ?_ | refine W.skip ?_ | refine W.exit rfl ?_ | refine WL.box rfl rfl rfl ?_ | refine W.opsD ?_ | refine W.condT rfl ?_ | refine W.condF rfl ?_)
    refine W.cond rfl (fun hb => ?_) (fun hb => ?_)
    · have hk1 : k = 1 := by simpa using hb
      subst hk1
      repeat (first | refine W.seq ?_ | refine W.ops ?_ | refine WL.off rfl rfl ?_ | refine WL.val rfl rfl rfl ?_ | refine WL.nil ?_ | refine W.block ?_ | refine W.outBlock ?_ | refine W.skip ?_ | refine W.exit rfl ?_ | refine WL.box rfl rfl rfl ?_ | refine W.opsD ?_ | refine W.condT rfl ?_ | refine W.condF rfl ?_)
      refine WL.lookup_sl rfl rfl rfl hbv rfl (fun v hR => ?_)
      have e : s.leads (1, id) = (lookL s.blocks id).flatMap instrLead := rfl
      have hlen := lookL_le sm2 (by decide) id
      rw [e]
      dsimp only at hR ⊢
      generalize lookL s.blocks id = L at *
      refine WL.val rfl (aop_len_sl rfl hR) rfl ?_
      repeat (first | refine W.seq ?_ | refine W.ops ?_ | refine WL.off rfl rfl ?_ | refine WL.val rfl rfl rfl ?_ | refine WL.nil ?_ | refine W.block ?_ | refine W.outBlock ?_ | refine W.skip ?_ | refine W.exit rfl ?_ | refine WL.box rfl rfl rfl ?_ | refine W.opsD ?_ | refine W.condT rfl ?_ | refine W.condF rfl ?_)
      refine W.loopE (E0 := envOf [(5, _), (62, _), (63, _), (64, _)]) rfl (β := Nat × AV) (fun b => [(5, .v b.2), (64, .v (.int .i64 b.1))])
        (fun b h n => b.1 ≤ L.length ∧ OwnS h 2 (((L.take b.1).flatMap instrLead).flatMap encP) ((L.take b.1).flatMap instrLead).length b.2 ∧ Fresh h n) (fun b => L.length - b.1) (0, .nils) rfl ⟨by simp, OwnS.nil _ _, Fresh.empty _⟩ ?_
      rintro ⟨i, w⟩ h n ⟨hi, hw, hfr⟩ ih
      dsimp only at hi hw
      have hwl : ((L.take i).flatMap instrLead).length ≤ 1000000 := by have := leads_len (L.take i); rw [List.length_take] at this; omega
      repeat (first | refine W.seq ?_ | refine W.ops ?_ | refine WL.off rfl rfl ?_ | refine WL.val rfl rfl rfl ?_ | refine WL.nil ?_ | refine W.block ?_ | refine W.outBlock ?_ | refine W.skip ?_ | refine W.exit rfl ?_ | refine WL.box rfl rfl rfl ?_ | refine W.opsD ?_ | refine W.condT rfl ?_ | refine W.condF rfl ?_)
      refine W.cond rfl (fun hb2 => ?_) (fun hb2 => ?_)
      · have hlt : i < L.length := by simpa using hb2
        repeat (first | refine W.seq ?_ | refine W.ops ?_ | refine WL.off rfl rfl ?_ | refine WL.val rfl rfl rfl ?_ | refine WL.nil ?_ | refine W.block ?_ | refine W.outBlock ?_ | refine W.skip ?_ | refine W.exit rfl ?_ | refine WL.box rfl rfl rfl ?_ | refine W.opsD ?_ | refine W.condT rfl ?_ | refine W.condF rfl ?_)
        refine WL.val rfl (aop_iaddr_sl rfl hR rfl hlt) rfl ?_
        refine WL.val rfl (aop_load_st (enc := Instr.enc) rfl (fun _ => rfl) hlt) rfl ?_
        repeat (first | refine W.seq ?_ | refine W.ops ?_ | refine WL.off rfl rfl ?_ | refine WL.val rfl rfl rfl ?_ | refine WL.nil ?_ | refine W.block ?_ | refine W.outBlock ?_ | refine W.skip ?_ | refine W.exit rfl ?_ | refine WL.box rfl rfl rfl ?_ | refine W.opsD ?_ | refine W.condT rfl ?_ | refine W.condF rfl ?_)
        refine W.cond rfl (fun hop => ?_) (fun hop => ?_)
        · have e2 : instrLead L[i] = [(0, L[i].n)] := by simp only [instrLead]; have : (L[i].op == 13) = true := hop; simp [this]
          repeat (first | refine W.seq ?_ | refine W.ops ?_ | refine WL.off rfl rfl ?_ | refine WL.val rfl rfl rfl ?_ | refine WL.nil ?_ | refine W.block ?_ | refine W.outBlock ?_ | refine W.skip ?_ | refine W.exit rfl ?_ | refine WL.box rfl rfl rfl ?_ | refine W.opsD ?_ | refine W.condT rfl ?_ | refine W.condF rfl ?_)
          refine WL.val rfl (aop_move_nj rfl hw.nj) rfl ?_
          repeat (first | refine W.seq ?_ | refine W.ops ?_ | refine WL.off rfl rfl ?_ | refine WL.val rfl rfl rfl ?_ | refine WL.nil ?_ | refine W.block ?_ | refine W.outBlock ?_ | refine W.skip ?_ | refine W.exit rfl ?_ | refine WL.box rfl rfl rfl ?_ | refine W.opsD ?_ | refine W.condT rfl ?_ | refine W.condF rfl ?_)
          refine WL.push (new := encP (0, L[i].n)) rfl rfl rfl rfl rfl rfl (by decide) rfl hw (hfr.mono (by omega)) rfl (by omega) rfl (fun _ _ _ => rfl) (fun rd wr H' g1 g2 g3 => ?_)
          repeat (first | refine W.seq ?_ | refine W.ops ?_ | refine WL.off rfl rfl ?_ | refine WL.val rfl rfl rfl ?_ | refine WL.nil ?_ | refine W.block ?_ | refine W.outBlock ?_ | refine W.skip ?_ | refine W.exit rfl ?_ | refine WL.box rfl rfl rfl ?_ | refine W.opsD ?_ | refine W.condT rfl ?_ | refine W.condF rfl ?_)
          refine ih (i + 1, _) _ _ _ ⟨hlt, ?_, g3 _ (by omega)⟩ (by simp only; omega) (by rw [← wrap64_nat (k := i) (by omega)]; rfl)
          rw [flat_snoc hlt, List.flatMap_append, List.length_append, e2]
          exact g1
        · have o1 : (L[i].op == 13) = false := hop
          repeat (first | refine W.seq ?_ | refine W.ops ?_ | refine WL.off rfl rfl ?_ | refine WL.val rfl rfl rfl ?_ | refine WL.nil ?_ | refine W.block ?_ | refine W.outBlock ?_ | refine W.skip ?_ | refine W.exit rfl ?_ | refine WL.box rfl rfl rfl ?_ | refine W.opsD ?_ | refine W.condT rfl ?_ | refine W.condF rfl ?_)
          refine W.cond rfl (fun hop2 => ?_) (fun hop2 => ?_)
          · have e2 : instrLead L[i] = [(2, L[i].n)] := by simp only [instrLead, o1]; have : (L[i].op == 14) = true := hop2; simp [this]
            repeat (first | refine W.seq ?_ | refine W.ops ?_ | refine WL.off rfl rfl ?_ | refine WL.val rfl rfl rfl ?_ | refine WL.nil ?_ | refine W.block ?_ | refine W.outBlock ?_ | refine W.skip ?_ | refine W.exit rfl ?_ | refine WL.box rfl rfl rfl ?_ | refine W.opsD ?_ | refine W.condT rfl ?_ | refine W.condF rfl ?_)
            refine WL.val rfl (aop_move_nj rfl hw.nj) rfl ?_
            repeat (first | refine W.seq ?_ | refine W.ops ?_ | refine WL.off rfl rfl ?_ | refine WL.val rfl rfl rfl ?_ | refine WL.nil ?_ | refine W.block ?_ | refine W.outBlock ?_ | refine W.skip ?_ | refine W.exit rfl ?_ | refine WL.box rfl rfl rfl ?_ | refine W.opsD ?_ | refine W.condT rfl ?_ | refine W.condF rfl ?_)
            refine WL.push (new := encP (2, L[i].n)) rfl rfl rfl rfl rfl rfl (by decide) rfl hw (hfr.mono (by omega)) rfl (by omega) rfl (fun _ _ _ => rfl) (fun rd wr H' g1 g2 g3 => ?_)
            repeat (first | refine W.seq ?_ | refine W.ops ?_ | refine WL.off rfl rfl ?_ | refine WL.val rfl rfl rfl ?_ | refine WL.nil ?_ | refine W.block ?_ | refine W.outBlock ?_ | refine W.skip ?_ | refine W.exit rfl ?_ | refine WL.box rfl rfl rfl ?_ | refine W.opsD ?_ | refine W.condT rfl ?_ | refine W.condF rfl ?_)
            refine ih (i + 1, _) _ _ _ ⟨hlt, ?_, g3 _ (by omega)⟩ (by simp only; omega) (by rw [← wrap64_nat (k := i) (by omega)]; rfl)
            rw [flat_snoc hlt, List.flatMap_append, List.length_append, e2]
            exact g1
          · have e2 : instrLead L[i] = [] := by simp only [instrLead, o1]; have : (L[i].op == 14) = false := hop2; simp [this]
            repeat (first | refine W.seq ?_ | refine W.ops ?_ | refine WL.off rfl rfl ?_ | refine WL.val rfl rfl rfl ?_ | refine WL.nil ?_ | refine W.block ?_ | refine W.outBlock ?_ | refine W.skip ?_ | refine W.exit rfl ?_ | refine WL.box rfl rfl rfl ?_ | refine W.opsD ?_ | refine W.condT rfl ?_ | refine W.condF rfl ?_)
            refine ih (i + 1, w) _ _ _ ⟨hlt, ?_, hfr.mono (by omega)⟩ (by simp only; omega) (by rw [← wrap64_nat (k := i) (by omega)]; rfl)
            rw [flat_snoc hlt, e2, List.append_nil]
            exact hw
      · have hge : i = L.length := by simp at hb2; omega
        subst hge
        repeat (first | refine W.seq ?_ | refine W.ops ?_ | refine WL.off rfl rfl ?_ | refine WL.val rfl rfl rfl ?_ | refine WL.nil ?_ | refine W.block ?_ | refine W.outBlock ?_ | refine W.skip ?_ | refine W.exit rfl ?_ | refine WL.box rfl rfl rfl ?_ | refine W.opsD ?_ | refine W.condT rfl ?_ | refine W.condF rfl ?_)
        refine WL.val rfl (aop_move_nj rfl hw.nj) rfl ?_
        refine WL.val rfl (aop_move_nj rfl hw.nj) rfl ?_
        repeat (first | refine W.seq ?_ | refine W.ops ?_ | refine WL.off rfl rfl ?_ | refine WL.val rfl rfl rfl ?_ | refine WL.nil ?_ | refine W.block ?_ | refine W.outBlock ?_ | refine W.skip ?_ | refine W.exit rfl ?_ | refine WL.box rfl rfl rfl ?_ | refine W.opsD ?_ | refine W.condT rfl ?_ | refine W.condF rfl ?_)
        exact W.ret ⟨w, by simpa only [List.take_length] using hw, res1 rfl hw.nj⟩
    · have hk1 : k ≠ 1 := by simpa using hb
      repeat (first | refine W.seq ?_ | refine W.ops ?_ | refine WL.off rfl rfl ?_ | refine WL.val rfl rfl rfl ?_ | refine WL.nil ?_ | refine W.block ?_ | refine W.outBlock ?_ | refine W.skip ?_ | refine W.exit rfl ?_ | refine WL.box rfl rfl rfl ?_ | refine W.opsD ?_ | refine W.condT rfl ?_ | refine W.condF rfl ?_)
      refine WL.lookup_grp (s := s) rfl rfl rfl rfl (fun a b v hR => ?_)
      have e : s.leads (k, id) = (s.buckets id).map fun b => (1, b.block) := by simp [Solv.leads, hk, hk1]
      have hlen := buckets_le sm3 (by decide) id
      rw [e]
      dsimp only at hR ⊢
      generalize s.buckets id = L at *
      repeat (first | refine W.seq ?_ | refine W.ops ?_ | refine WL.off rfl rfl ?_ | refine WL.val rfl rfl rfl ?_ | refine WL.nil ?_ | refine W.block ?_ | refine W.outBlock ?_ | refine W.skip ?_ | refine W.exit rfl ?_ | refine WL.box rfl rfl rfl ?_ | refine W.opsD ?_ | refine W.condT rfl ?_ | refine W.condF rfl ?_)
      refine WL.val rfl (aop_len_sl rfl hR) rfl ?_
      repeat (first | refine W.seq ?_ | refine W.ops ?_ | refine WL.off rfl rfl ?_ | refine WL.val rfl rfl rfl ?_ | refine WL.nil ?_ | refine W.block ?_ | refine W.outBlock ?_ | refine W.skip ?_ | refine W.exit rfl ?_ | refine WL.box rfl rfl rfl ?_ | refine W.opsD ?_ | refine W.condT rfl ?_ | refine W.condF rfl ?_)
      refine W.loopE (E0 := envOf [(5, _), (21, _), (22, _), (23, _)]) rfl (β := Nat × AV) (fun b => [(5, .v b.2), (23, .v (.int .i64 b.1))])
        (fun b h n => b.1 ≤ L.length ∧ OwnS h 2 (((L.take b.1).map fun b => ((1 : Int), b.block)).flatMap encP) ((L.take b.1).map fun b => ((1 : Int), b.block)).length b.2 ∧ Fresh h n) (fun b => L.length - b.1) (0, .nils) rfl ⟨by simp, OwnS.nil _ _, Fresh.empty _⟩ ?_
      rintro ⟨i, w⟩ h n ⟨hi, hw, hfr⟩ ih
      dsimp only at hi hw
      have hwl : ((L.take i).map fun b => ((1 : Int), b.block)).length ≤ 1000000 := by simp; omega
      repeat (first | refine W.seq ?_ | refine W.ops ?_ | refine WL.off rfl rfl ?_ | refine WL.val rfl rfl rfl ?_ | refine WL.nil ?_ | refine W.block ?_ | refine W.outBlock ?_ | refine W.skip ?_ | refine W.exit rfl ?_ | refine WL.box rfl rfl rfl ?_ | refine W.opsD ?_ | refine W.condT rfl ?_ | refine W.condF rfl ?_)
      refine W.cond rfl (fun hb2 => ?_) (fun hb2 => ?_)
      · have hlt : i < L.length := by simpa using hb2
        repeat (first | refine W.seq ?_ | refine W.ops ?_ | refine WL.off rfl rfl ?_ | refine WL.val rfl rfl rfl ?_ | refine WL.nil ?_ | refine W.block ?_ | refine W.outBlock ?_ | refine W.skip ?_ | refine W.exit rfl ?_ | refine WL.box rfl rfl rfl ?_ | refine W.opsD ?_ | refine W.condT rfl ?_ | refine W.condF rfl ?_)
        refine WL.val rfl (aop_iaddr_sl rfl hR rfl hlt) rfl ?_
        refine WL.val rfl (aop_load_st (enc := Bucket.enc) rfl (fun _ => rfl) hlt) rfl ?_
        repeat (first | refine W.seq ?_ | refine W.ops ?_ | refine WL.off rfl rfl ?_ | refine WL.val rfl rfl rfl ?_ | refine WL.nil ?_ | refine W.block ?_ | refine W.outBlock ?_ | refine W.skip ?_ | refine W.exit rfl ?_ | refine WL.box rfl rfl rfl ?_ | refine W.opsD ?_ | refine W.condT rfl ?_ | refine W.condF rfl ?_)
        refine WL.val rfl (aop_move_nj rfl hw.nj) rfl ?_
        repeat (first | refine W.seq ?_ | refine W.ops ?_ | refine WL.off rfl rfl ?_ | refine WL.val rfl rfl rfl ?_ | refine WL.nil ?_ | refine W.block ?_ | refine W.outBlock ?_ | refine W.skip ?_ | refine W.exit rfl ?_ | refine WL.box rfl rfl rfl ?_ | refine W.opsD ?_ | refine W.condT rfl ?_ | refine W.condF rfl ?_)
        refine WL.push (new := encP (1, L[i].block)) rfl rfl rfl rfl rfl rfl (by decide) rfl hw (hfr.mono (by omega)) rfl (by omega) rfl (fun _ _ _ => rfl) (fun rd wr H' g1 g2 g3 => ?_)
        repeat (first | refine W.seq ?_ | refine W.ops ?_ | refine WL.off rfl rfl ?_ | refine WL.val rfl rfl rfl ?_ | refine WL.nil ?_ | refine W.block ?_ | refine W.outBlock ?_ | refine W.skip ?_ | refine W.exit rfl ?_ | refine WL.box rfl rfl rfl ?_ | refine W.opsD ?_ | refine W.condT rfl ?_ | refine W.condF rfl ?_)
        refine ih (i + 1, _) _ _ _ ⟨hlt, ?_, g3 _ (by omega)⟩ (by simp only; omega) (by rw [← wrap64_nat (k := i) (by omega)]; rfl)
        rw [map_snoc hlt, List.flatMap_append, List.length_append]
        exact g1
      · have hge : i = L.length := by simp at hb2; omega
        subst hge
        repeat (first | refine W.seq ?_ | refine W.ops ?_ | refine WL.off rfl rfl ?_ | refine WL.val rfl rfl rfl ?_ | refine WL.nil ?_ | refine W.block ?_ | refine W.outBlock ?_ | refine W.skip ?_ | refine W.exit rfl ?_ | refine WL.box rfl rfl rfl ?_ | refine W.opsD ?_ | refine W.condT rfl ?_ | refine W.condF rfl ?_)
        refine WL.val rfl (aop_move_nj rfl hw.nj) rfl ?_
        refine WL.val rfl (aop_move_nj rfl hw.nj) rfl ?_
        repeat (first | refine W.seq ?_ | refine W.ops ?_ | refine WL.off rfl rfl ?_ | refine WL.val rfl rfl rfl ?_ | refine WL.nil ?_ | refine W.block ?_ | refine W.outBlock ?_ | refine W.skip ?_ | refine W.exit rfl ?_ | refine WL.box rfl rfl rfl ?_ | refine W.opsD ?_ | refine W.condT rfl ?_ | refine W.condF rfl ?_)
        exact W.ret ⟨w, by simpa only [List.take_length] using hw, res1 rfl hw.nj⟩
end
end Go.AM.B

/- AM, part 30: maps in the heap, variables in the heap. -/
namespace Go.AM
noncomputable section
set_option linter.unusedVariables false
set_option linter.unusedSimpArgs false
variable {E : Env} {H : Heap} {nid : Id} {d : Option Nat} {T : FuncId → Option VFun} {nr i dd : Nat} {dr : DR} {g : Option (Nat × Bool)} {md : Mode} {ops : List VO} {N : Nat} {K : St → Prop}

theorem aop_load_h {x : Operand} {o : Id} {off : Nat} {cs : List AV} {a : AV} (hx : evS E x = some (.v (.ptr o off))) (hg : H.get o = some (.cells cs)) (ha : cs[off]? = some a) :
    aop E H nid d (.load none x) = some ⟨.v a, none, [], none, [.obj o], []⟩ := by
  simp only [aop, hx, readAt, hg, width, sub_one ha, shut]
theorem aop_load_hs {x : Operand} {o : Id} {off k : Nat} {cs l : List AV} (hx : evS E x = some (.v (.ptr o off))) (hg : H.get o = some (.cells cs)) (ha : sub cs off k = some l) :
    aop E H nid d (.load (some k) x) = some ⟨.v (.agg l), none, [], none, [.obj o], []⟩ := by
  simp only [aop, hx, readAt, hg, width, ha, shut]
theorem aop_store_h {x y : Operand} {o : Id} {off k : Nat} {cs cs' : List AV} {a : AV} (hx : evS E x = some (.v (.ptr o off))) (hy : evA E y = some a) (hl : (cellsOf a).length = k) (ho : ones (cellsOf a) = true) (hg : H.get o = some (.cells cs))
    (hu : upd cs off (cellsOf a) = some cs') : aop E H nid d (.store k x y) = some ⟨.v (.tuple []), none, [(o, .cells cs')], none, [.obj o], [.obj o]⟩ := by
  have : (!((cellsOf a).length == k) || !(ones (cellsOf a))) = false := by rw [hl, ho]; simp
  simp only [aop, hx, hy, this, cond_false, hg, hu]
theorem aop_store_l {x y : Operand} {s off k : Nat} {cs cs' : List AV} {a : AV} (hx : evS E x = some (.lptr s off)) (hy : evA E y = some a) (hl : (cellsOf a).length = k) (ho : ones (cellsOf a) = true) (hs : E.get s = some (.box cs))
    (hu : upd cs off (cellsOf a) = some cs') : aop E H nid d (.store k x y) = some ⟨.v (.tuple []), some (s, cs'), [], none, [.slot s], [.slot s]⟩ := by
  have : (!((cellsOf a).length == k) || !(ones (cellsOf a))) = false := by rw [hl, ho]; simp
  simp only [aop, hx, hy, this, cond_false, hs, hu]
theorem upd_one {cs : List AV} {off : Nat} {a : AV} (h : off < cs.length) : upd cs off [a] = some (cs.set off a) := by
  have : Nat.ble (off + [a].length) cs.length = true := Nat.ble_eq_true_of_le (by simp; omega)
  simp only [upd, this, cond_true]
  rw [List.set_eq_take_append_cons_drop, if_pos h]
  simp

def MapH (h : Heap) (o : Id) (ks vs : List AV) : Prop := ∃ born clock, h.get o = some (.map ks vs born clock)
theorem MapH.frame {h h' : Heap} {o : Id} {ks vs : List AV} (H : MapH h o ks vs) (e : h'.get o = h.get o) : MapH h' o ks vs := by
  obtain ⟨b, c, hb⟩ := H
  exact ⟨b, c, e.trans hb⟩
def ixGet (vs : List AV) (z : AV) : Option Nat → Option AV
  | some j => vs[j]?
  | none => some z
def ixKs (ks : List AV) (key : AV) : Option Nat → List AV
  | some _ => ks
  | none => ks ++ [key]
def ixVs (vs : List AV) (v : AV) : Option Nat → List AV
  | some j => vs.set j v
  | none => vs ++ [v]
theorem WL.lookH {k : EK} {z key : AV} {x y : Operand} {ok : Bool} {o : Id} {ks vs : List AV} {r : Option Nat} {v : AV} {b : Bool} (hg : wantedA E g = some true) (hx : evA E x = some (.map o)) (hy : evA E y = some key) (hM : MapH H o ks vs)
    (hr : mapIx k key ks = some r) (hv : ixGet vs z r = some v) (hb : r.isSome = b) (hc : okR dr i ([.obj o], []) ⟨some dd, g, .lookup k z x y ok, md⟩ = true)
    (R : WL T nr (logR dr i ([.obj o], [])) (i + 1) ops ⟨E.put dd (.v (bif ok then .tuple [v, .bool b] else v)), H, N⟩ K) : WL T nr dr i (⟨some dd, g, .lookup k z x y ok, md⟩ :: ops) ⟨E, H, N⟩ K := by
  obtain ⟨born, clock, hM⟩ := hM
  have e : aop E H (nr, i) (some dd) (.lookup k z x y ok) = some ⟨.v (bif ok then .tuple [v, .bool b] else v), none, [], none, [.obj o], []⟩ := by
    cases r with
    | none =>
      simp only [ixGet, Option.some.injEq] at hv
      subst hv
      simp only [Option.isSome_none] at hb
      subst hb
      simp only [aop, hx, hy, hM, lookupIn, hr]
    | some j =>
      simp only [ixGet] at hv
      simp only [Option.isSome_some] at hb
      subst hb
      simp only [aop, hx, hy, hM, lookupIn, hr, hv]
  exact WL.val hg e hc R
theorem WL.mapupH {k : EK} {key v : AV} {m x y : Operand} {dn : Option Nat} {o : Id} {ks vs : List AV} {r : Option Nat} (hg : wantedA E g = some true) (hm : evA E m = some (.map o)) (hx : evA E x = some key) (hy : evA E y = some v) (hM : MapH H o ks vs)
    (hr : mapIx k key ks = some r) (hc : okR dr i ([.obj o], [.obj o]) ⟨dn, g, .mapup k m x y, md⟩ = true)
    (R : ∀ ob, (∀ H', H'.get o = some ob → MapH H' o (ixKs ks key r) (ixVs vs v r)) →
      WL T nr (logR dr i ([.obj o], [.obj o])) (i + 1) ops ⟨E.putO dn (.v (.tuple [])), H.put o ob, N⟩ K) : WL T nr dr i (⟨dn, g, .mapup k m x y, md⟩ :: ops) ⟨E, H, N⟩ K := by
  obtain ⟨born, clock, hM⟩ := hM
  cases r with
  | none =>
    have e : aop E H (nr, i) dn (.mapup k m x y) = some ⟨.v (.tuple []), none, [(o, .map (ks ++ [key]) (vs ++ [v]) (born ++ [clock]) (clock + 1))], none, [.obj o], [.obj o]⟩ := by
      simp only [aop, hm, hx, hy, hM, hr]
    exact WL.heap hg e hc (R _ fun H' h => ⟨_, _, h⟩)
  | some j =>
    have e : aop E H (nr, i) dn (.mapup k m x y) = some ⟨.v (.tuple []), none, [(o, .map ks (vs.set j v) born clock)], none, [.obj o], [.obj o]⟩ := by
      simp only [aop, hm, hx, hy, hM, hr]
    exact WL.heap hg e hc (R _ fun H' h => ⟨_, _, h⟩)
theorem mapIx_int {α : Type} (f : α → Int) (n : Int) (l : List α) : mapIx (.one (.int .i64)) (.int .i64 n) (l.map fun x => .int .i64 (f x)) = some (l.findIdx? fun x => f x == n) := by
  have h : fits (.one (.int .i64)) (.int .i64 n) = true := rfl
  simp only [mapIx, h, cond_true, findK_int]
  cases l.findIdx? (fun x => f x == n) <;> rfl
theorem mapIx_pair {α : Type} (f : α → Int × Int) (n : Int × Int) (l : List α) : mapIx (.flat [.int .i64, .int .i64]) (kp n) (l.map fun x => kp (f x)) = some (l.findIdx? fun x => f x == n) := by
  have h : fits (.flat [.int .i64, .int .i64]) (kp n) = true := rfl
  simp only [mapIx, h, cond_true, findK_pair]
  cases l.findIdx? (fun x => f x == n) <;> rfl

/-! ### maps to numbers -/
def mget {κ : Type} [BEq κ] (st : List (κ × Int)) (x : κ) : Option Int := (st.find? fun p => p.1 == x).map (·.2)
def mput {κ : Type} [BEq κ] (st : List (κ × Int)) (x : κ) (v : Int) : List (κ × Int) :=
  match st.findIdx? fun p => p.1 == x with
  | some j => st.set j (x, v)
  | none => st ++ [(x, v)]
def MapN {κ : Type} (key : κ → AV) (h : Heap) (o : Id) (st : List (κ × Int)) : Prop := MapH h o (st.map fun p => key p.1) (st.map fun p => .int .i64 p.2)
theorem mget_idx {κ : Type} [BEq κ] (st : List (κ × Int)) (x : κ) : ixGet (st.map fun p => AV.int .i64 p.2) (.int .i64 0) (st.findIdx? fun p => p.1 == x) = some (.int .i64 ((mget st x).getD 0)) ∧
    (st.findIdx? (fun p => p.1 == x)).isSome = (mget st x).isSome := by
  unfold mget
  cases h : st.findIdx? (fun p => p.1 == x) with
  | none =>
    have : st.find? (fun p => p.1 == x) = none := by simpa using h
    rw [this]; exact ⟨rfl, rfl⟩
  | some j =>
    obtain ⟨hj, h1⟩ := find_of_idx h
    rw [h1]
    refine ⟨?_, rfl⟩
    simp [ixGet, hj]
theorem mput_maps {κ : Type} [BEq κ] [LawfulBEq κ] (key : κ → AV) (st : List (κ × Int)) (x : κ) (v : Int) :
    ixKs (st.map fun p => key p.1) (key x) (st.findIdx? fun p => p.1 == x) = (mput st x v).map (fun p => key p.1) ∧
    ixVs (st.map fun p => AV.int .i64 p.2) (.int .i64 v) (st.findIdx? fun p => p.1 == x) = (mput st x v).map (fun p => .int .i64 p.2) := by
  unfold mput
  cases h : st.findIdx? (fun p => p.1 == x) with
  | none => simp [ixKs, ixVs]
  | some j =>
    obtain ⟨hj, h1, _⟩ := List.findIdx?_eq_some_iff_getElem.1 h
    simp only [beq_iff_eq] at h1
    refine ⟨?_, by simp [ixVs, List.map_set]⟩
    simp only [ixKs, List.map_set]
    rw [← h1]
    apply List.ext_getElem
    · simp
    · intro k hk1 hk2
      by_cases e : j = k
      · subst e; simp
      · simp [List.getElem_set_ne e]
theorem WL.lookN {κ : Type} [BEq κ] {key : κ → AV} {k : EK} {st : List (κ × Int)} {n : κ} {x y : Operand} {ok : Bool} {o : Id} (hk : mapIx k (key n) (st.map fun x => key x.1) = some (st.findIdx? fun p => p.1 == n)) (hg : wantedA E g = some true) (hx : evA E x = some (.map o))
    (hy : evA E y = some (key n)) (hM : MapN key H o st) (hc : okR dr i ([.obj o], []) ⟨some dd, g, .lookup k (.int .i64 0) x y ok, md⟩ = true)
    (R : WL T nr (logR dr i ([.obj o], [])) (i + 1) ops ⟨E.put dd (.v (bif ok then .tuple [.int .i64 ((mget st n).getD 0), .bool (mget st n).isSome] else .int .i64 ((mget st n).getD 0))), H, N⟩ K) :
    WL T nr dr i (⟨some dd, g, .lookup k (.int .i64 0) x y ok, md⟩ :: ops) ⟨E, H, N⟩ K :=
  WL.lookH hg hx hy hM hk (mget_idx st n).1 (mget_idx st n).2 hc R
theorem WL.mapupN {κ : Type} [BEq κ] [LawfulBEq κ] {key : κ → AV} {k : EK} {st : List (κ × Int)} {n : κ} {v : Int} {m x y : Operand} {dn : Option Nat} {o : Id} (hk : mapIx k (key n) (st.map fun x => key x.1) = some (st.findIdx? fun p => p.1 == n)) (hg : wantedA E g = some true)
    (hm : evA E m = some (.map o)) (hx : evA E x = some (key n)) (hy : evA E y = some (.int .i64 v)) (hM : MapN key H o st) (hc : okR dr i ([.obj o], [.obj o]) ⟨dn, g, .mapup k m x y, md⟩ = true)
    (R : ∀ ob, (∀ H', H'.get o = some ob → MapN key H' o (mput st n v)) → WL T nr (logR dr i ([.obj o], [.obj o])) (i + 1) ops ⟨E.putO dn (.v (.tuple [])), H.put o ob, N⟩ K) :
    WL T nr dr i (⟨dn, g, .mapup k m x y, md⟩ :: ops) ⟨E, H, N⟩ K :=
  WL.mapupH hg hm hx hy hM hk hc fun ob h => R ob fun H' h' => by
    have := h H' h'
    rw [(mput_maps key st n v).1, (mput_maps key st n v).2] at this
    exact this
/-! ### what is known of a bool is put into its slot -/
theorem Tr.set_same {α : Type} (v : α) : ∀ (ks : List Bool) (t : Tr α), Tr.get t ks = some v → Tr.set t ks (some v) = t := by
  intro ks
  induction ks with
  | nil =>
    intro t h
    cases t with
    | leaf => rw [Tr.get_l] at h; cases h
    | node u l r => rw [Tr.get_n] at h; rw [Tr.set_nn, h]
  | cons b bs ih =>
    intro t h
    cases t with
    | leaf => rw [Tr.get_l] at h; cases h
    | node u l r =>
      rw [Tr.get_c] at h
      rw [Tr.set_nc]
      cases b with
      | true => simp only [cond_true] at h ⊢; rw [ih r h]
      | false => simp only [cond_false] at h ⊢; rw [ih l h]
theorem Env.put_same {e : Env} {s : Nat} {v : SV} (h : e.get s = some v) : e.put s v = e := Tr.set_same v _ _ h
theorem WL.splitG {t : Nat} {w : Bool} {dn : Option Nat} {op : VOp} {b : Bool} (hb : E.get t = some (.v (.bool b))) (h1 : b = true → WL T nr dr i (⟨dn, some (t, w), op, md⟩ :: ops) ⟨E.put t (.v (.bool true)), H, N⟩ K)
    (h2 : b = false → WL T nr dr i (⟨dn, some (t, w), op, md⟩ :: ops) ⟨E.put t (.v (.bool false)), H, N⟩ K) : WL T nr dr i (⟨dn, some (t, w), op, md⟩ :: ops) ⟨E, H, N⟩ K := by
  cases b with
  | true => have := h1 rfl; rwa [Env.put_same hb] at this
  | false => have := h2 rfl; rwa [Env.put_same hb] at this
theorem W.condS {t : Nat} {a c : VC} {r : List Item} {Q : St → Prop} {b : Bool} (hb : E.get t = some (.v (.bool b))) (h1 : b = true → W T (.code a :: r) ⟨E.put t (.v (.bool true)), H, N⟩ Q)
    (h2 : b = false → W T (.code c :: r) ⟨E.put t (.v (.bool false)), H, N⟩ Q) : W T (.code (.cond (.tmp t) a c) :: r) ⟨E, H, N⟩ Q := by
  refine W.cond (c := b) (by simp only [evA, hb]) (fun e => ?_) (fun e => ?_)
  · have := h1 e; rw [← e, Env.put_same hb] at this; exact this
  · have := h2 e; rw [← e, Env.put_same hb] at this; exact this
/-- From here on the heap is known by a property alone. -/
theorem W.gen {items : List Item} {Q : St → Prop} (P : Heap → Nat → Prop) (h : P H N) (R : ∀ H N, P H N → W T items ⟨E, H, N⟩ Q) : W T items ⟨E, H, N⟩ Q := R _ _ h
theorem retB {x y : Bool} (h : x = y) : some (AV.bool x) = some (AV.bool y) := by rw [h]
theorem retI {k : IntKind} {x y : Int} (h : x = y) : some (AV.int k x) = some (AV.int k y) := by rw [h]
end
end Go.AM

/- Package bound: does something lead to itself (the search, as the program makes it). -/
namespace Go.AM.B
open Go.Proofs.Ytebogdeaiecldaa.Tab
noncomputable section
set_option linter.unusedVariables false
set_option maxHeartbeats 4000000

abbrev Mem := List (Th × Int)
def foldS (f : Mem → Th → Option (Mem × Bool)) : Mem → List Th → Option (Mem × Bool)
  | st, [] => some (st, false)
  | st, y :: ys => match f st y with
    | none => none
    | some (st', true) => some (st', true)
    | some (st', false) => foldS f st' ys
def seen (st : Mem) (x : Th) : Int := (mget st x).getD 0
def dfs (s : Solv) : Nat → Mem → Th → Option (Mem × Bool)
  | 0, _, _ => none
  | k + 1, st, x => if seen st x ≠ 0 then some (st, seen st x == 1) else
    match foldS (dfs s k) (mput st x 1) (s.leads x) with
    | none => none
    | some (st', true) => some (st', true)
    | some (st', false) => some (mput st' x 2, false)

structure CH (a : AV) (oSt oS oV oM : AM.Id) (h : Heap) (n : Nat) (st : Mem) : Prop where
  t : h.get oSt = some (.cells [.map oM])
  s : h.get oS = some (.cells [a])
  v : h.get oV = some (.cells [.func (.func 42) [] [.ptr oSt 0, .ptr oS 0, .ptr oV 0]])
  m : MapN kp h oM st
  fr : Fresh h n
  n1 : oSt ≠ oM
  n2 : oS ≠ oM
  n3 : oV ≠ oM
theorem CH.put {a : AV} {oSt oS oV oM : AM.Id} {h : Heap} {n : Nat} {st : Mem} (H : CH a oSt oS oV oM h n st) {m : Nat} {ob : AObj} {st' : Mem} (hm : n ≤ m) (hob : ∀ H' : Heap, H'.get oM = some ob → MapN kp H' oM st') : CH a oSt oS oV oM (h.put oM ob) m st' where
  t := by rw [Heap.get_put, if_neg H.n1]; exact H.t
  s := by rw [Heap.get_put, if_neg H.n2]; exact H.s
  v := by rw [Heap.get_put, if_neg H.n3]; exact H.v
  m := hob (h.put oM ob) (by rw [Heap.get_put, if_pos rfl])
  fr := by
    obtain ⟨b, c, e⟩ := H.m
    exact H.fr.put (Nat.lt_of_lt_of_le (H.fr _ _ e) hm) hm
  n1 := H.n1
  n2 := H.n2
  n3 := H.n3
theorem CH.mono {a : AV} {oSt oS oV oM : AM.Id} {h : Heap} {n m : Nat} {st : Mem} (H : CH a oSt oS oV oM h n st) (hm : n ≤ m) : CH a oSt oS oV oM h m st :=
  ⟨H.t, H.s, H.v, H.m, H.fr.mono hm, H.n1, H.n2, H.n3⟩

theorem leads_le (s : Solv) (a : AV) (hs : IsSolv s a) (x : Th) : (s.leads x).length < 1000000 := by
  obtain ⟨⟨sm1, sm2, sm3, sm4⟩, _⟩ := hs
  unfold Solv.leads
  split
  · simpa using lookL_le sm1 (by decide) x.2
  · split
    · exact Nat.lt_of_le_of_lt (leads_len _) (lookL_le sm2 (by decide) x.2)
    · simpa using buckets_le sm3 (by decide) x.2

theorem IsSolv.form {s : Solv} {a : AV} (hs : IsSolv s a) : ∃ cs, a = .pptr cs 0 := by
  obtain ⟨_, tv, bv, al, rfl, _⟩ := hs
  exact ⟨_, rfl⟩
theorem drop_cons {α : Type} {l : List α} {i : Nat} (h : i < l.length) : l.drop i = l[i] :: l.drop (i + 1) := List.drop_eq_getElem_cons h

theorem visit_c (s : Solv) (a : AV) (hs : IsSolv s a) (oSt oS oV oM : AM.Id) : ∀ (k : Nat) (st : Mem) (x : Th) (st' : Mem) (b : Bool) (h : Heap) (n : Nat), dfs s k st x = some (st', b) → CH a oSt oS oV oM h n st →
    CallsTo T 42 [.agg (encP x), .ptr oSt 0, .ptr oS 0, .ptr oV 0] h n fun r h' n' => r = .bool b ∧ CH a oSt oS oV oM h' n' st' := by
  obtain ⟨cs, rfl⟩ := hs.form
  intro k
  induction k with
  | zero => intro st x st' b h n hd; cases hd
  | succ k IH =>
    intro st x st' b h n hd hC
    simp only [dfs] at hd
    refine CallsTo.of (vf := v42) rfl rfl ?_
    unfold v42
    repeat (first | refine W.seq ?_ | refine W.ops ?_ | refine WL.off rfl rfl ?_ | refine WL.val rfl rfl rfl ?_ | refine WL.nil ?_ | refine W.block ?_ | refine W.outBlock ?_ | refine W.skip ?_ | refine W.exit rfl ?_ | refine WL.box rfl rfl rfl ?_ | refine W.opsD ?_ | refine W.condT rfl ?_ | refine W.condF rfl ?_)
    refine WL.val rfl (aop_load_h rfl hC.t rfl) rfl ?_
    repeat (first | refine W.seq ?_ | refine W.ops ?_ | refine WL.off rfl rfl ?_ | refine WL.val rfl rfl rfl ?_ | refine WL.nil ?_ | refine W.block ?_ | refine W.outBlock ?_ | refine W.skip ?_ | refine W.exit rfl ?_ | refine WL.box rfl rfl rfl ?_ | refine W.opsD ?_ | refine W.condT rfl ?_ | refine W.condF rfl ?_)
    refine WL.lookN (key := kp) (n := x) (mapIx_pair (fun p => p.1) x st) rfl rfl rfl hC.m rfl ?_
    repeat (first | refine W.seq ?_ | refine W.ops ?_ | refine WL.off rfl rfl ?_ | refine WL.val rfl rfl rfl ?_ | refine WL.nil ?_ | refine W.block ?_ | refine W.outBlock ?_ | refine W.skip ?_ | refine W.exit rfl ?_ | refine WL.box rfl rfl rfl ?_ | refine W.opsD ?_ | refine W.condT rfl ?_ | refine W.condF rfl ?_)
    refine W.cond rfl (fun hb => ?_) (fun hb => ?_)
    · have hne : seen st x ≠ 0 := by simpa [seen] using hb
      rw [if_pos hne] at hd
      simp only [Option.some.injEq, Prod.mk.injEq] at hd
      obtain ⟨rfl, rfl⟩ := hd
      repeat (first | refine W.seq ?_ | refine W.ops ?_ | refine WL.off rfl rfl ?_ | refine WL.val rfl rfl rfl ?_ | refine WL.nil ?_ | refine W.block ?_ | refine W.outBlock ?_ | refine W.skip ?_ | refine W.exit rfl ?_ | refine WL.box rfl rfl rfl ?_ | refine W.opsD ?_ | refine W.condT rfl ?_ | refine W.condF rfl ?_)
      refine WL.val rfl (aop_load_h rfl hC.t rfl) rfl ?_
      repeat (first | refine W.seq ?_ | refine W.ops ?_ | refine WL.off rfl rfl ?_ | refine WL.val rfl rfl rfl ?_ | refine WL.nil ?_ | refine W.block ?_ | refine W.outBlock ?_ | refine W.skip ?_ | refine W.exit rfl ?_ | refine WL.box rfl rfl rfl ?_ | refine W.opsD ?_ | refine W.condT rfl ?_ | refine W.condF rfl ?_)
      refine WL.lookN (key := kp) (n := x) (mapIx_pair (fun p => p.1) x st) rfl rfl rfl hC.m rfl ?_
      repeat (first | refine W.seq ?_ | refine W.ops ?_ | refine WL.off rfl rfl ?_ | refine WL.val rfl rfl rfl ?_ | refine WL.nil ?_ | refine W.block ?_ | refine W.outBlock ?_ | refine W.skip ?_ | refine W.exit rfl ?_ | refine WL.box rfl rfl rfl ?_ | refine W.opsD ?_ | refine W.condT rfl ?_ | refine W.condF rfl ?_)
      exact W.ret ⟨_, rfl, rfl, hC.mono (by dsimp only; omega)⟩
    · have hne : ¬ seen st x ≠ 0 := by simpa [seen] using hb
      rw [if_neg hne] at hd
      repeat (first | refine W.seq ?_ | refine W.ops ?_ | refine WL.off rfl rfl ?_ | refine WL.val rfl rfl rfl ?_ | refine WL.nil ?_ | refine W.block ?_ | refine W.outBlock ?_ | refine W.skip ?_ | refine W.exit rfl ?_ | refine WL.box rfl rfl rfl ?_ | refine W.opsD ?_ | refine W.condT rfl ?_ | refine W.condF rfl ?_)
      refine WL.val rfl (aop_load_h rfl hC.t rfl) rfl ?_
      repeat (first | refine W.seq ?_ | refine W.ops ?_ | refine WL.off rfl rfl ?_ | refine WL.val rfl rfl rfl ?_ | refine WL.nil ?_ | refine W.block ?_ | refine W.outBlock ?_ | refine W.skip ?_ | refine W.exit rfl ?_ | refine WL.box rfl rfl rfl ?_ | refine W.opsD ?_ | refine W.condT rfl ?_ | refine W.condF rfl ?_)
      refine WL.mapupN (key := kp) (n := x) (mapIx_pair (fun p => p.1) x st) rfl rfl rfl rfl hC.m rfl (fun ob hob => ?_)
      have hC1 := hC.put (m := n + 1 + 1 + 1) (st' := mput st x 1) (by omega) hob
      repeat (first | refine W.seq ?_ | refine W.ops ?_ | refine WL.off rfl rfl ?_ | refine WL.val rfl rfl rfl ?_ | refine WL.nil ?_ | refine W.block ?_ | refine W.outBlock ?_ | refine W.skip ?_ | refine W.exit rfl ?_ | refine WL.box rfl rfl rfl ?_ | refine W.opsD ?_ | refine W.condT rfl ?_ | refine W.condF rfl ?_)
      refine WL.val rfl (aop_load_h rfl hC1.s rfl) rfl ?_
      repeat (first | refine W.seq ?_ | refine W.ops ?_ | refine WL.off rfl rfl ?_ | refine WL.val rfl rfl rfl ?_ | refine WL.nil ?_ | refine W.block ?_ | refine W.outBlock ?_ | refine W.skip ?_ | refine W.exit rfl ?_ | refine WL.box rfl rfl rfl ?_ | refine W.opsD ?_ | refine W.condT rfl ?_ | refine W.condF rfl ?_)
      obtain ⟨v, hv, hR⟩ := leads_c s _ hs x
      have hlen := leads_le s _ hs x
      refine WL.pure rfl rfl rfl hv rfl ?_
      generalize s.leads x = L at *
      refine WL.val rfl (aop_len_sl rfl hR) rfl ?_
      repeat (first | refine W.seq ?_ | refine W.ops ?_ | refine WL.off rfl rfl ?_ | refine WL.val rfl rfl rfl ?_ | refine WL.nil ?_ | refine W.block ?_ | refine W.outBlock ?_ | refine W.skip ?_ | refine W.exit rfl ?_ | refine WL.box rfl rfl rfl ?_ | refine W.opsD ?_ | refine W.condT rfl ?_ | refine W.condF rfl ?_)
      refine W.loopE (E0 := envOf [(1, _), (3, _), (4, _), (20, _), (21, _), (22, _)]) rfl (β := Nat × Mem) (fun b => [(22, .v (.int .i64 b.1))])
        (fun b h n => b.1 ≤ L.length ∧ CH (.pptr cs 0) oSt oS oV oM h n b.2 ∧ foldS (dfs s k) b.2 (L.drop b.1) = foldS (dfs s k) (mput st x 1) L) (fun b => L.length - b.1) (0, mput st x 1) rfl ⟨by simp, hC1.mono (by omega), rfl⟩ ?_
      rintro ⟨i, st1⟩ h1 n1 ⟨hi, hC2, hfo⟩ ih
      dsimp only at hi hC2 hfo
      repeat (first | refine W.seq ?_ | refine W.ops ?_ | refine WL.off rfl rfl ?_ | refine WL.val rfl rfl rfl ?_ | refine WL.nil ?_ | refine W.block ?_ | refine W.outBlock ?_ | refine W.skip ?_ | refine W.exit rfl ?_ | refine WL.box rfl rfl rfl ?_ | refine W.opsD ?_ | refine W.condT rfl ?_ | refine W.condF rfl ?_)
      refine W.cond rfl (fun hb2 => ?_) (fun hb2 => ?_)
      · have hlt : i < L.length := by simpa using hb2
        rw [drop_cons hlt] at hfo
        repeat (first | refine W.seq ?_ | refine W.ops ?_ | refine WL.off rfl rfl ?_ | refine WL.val rfl rfl rfl ?_ | refine WL.nil ?_ | refine W.block ?_ | refine W.outBlock ?_ | refine W.skip ?_ | refine W.exit rfl ?_ | refine WL.box rfl rfl rfl ?_ | refine W.opsD ?_ | refine W.condT rfl ?_ | refine W.condF rfl ?_)
        refine WL.val rfl (aop_iaddr_sl rfl hR rfl hlt) rfl ?_
        refine WL.val rfl (aop_load_st (enc := encP) rfl (fun _ => rfl) hlt) rfl ?_
        repeat (first | refine W.seq ?_ | refine W.ops ?_ | refine WL.off rfl rfl ?_ | refine WL.val rfl rfl rfl ?_ | refine WL.nil ?_ | refine W.block ?_ | refine W.outBlock ?_ | refine W.skip ?_ | refine W.exit rfl ?_ | refine WL.box rfl rfl rfl ?_ | refine W.opsD ?_ | refine W.condT rfl ?_ | refine W.condF rfl ?_)
        refine WL.val rfl (aop_load_h rfl hC2.v rfl) rfl ?_
        repeat (first | refine W.seq ?_ | refine W.ops ?_ | refine WL.off rfl rfl ?_ | refine WL.val rfl rfl rfl ?_ | refine WL.nil ?_ | refine W.block ?_ | refine W.outBlock ?_ | refine W.skip ?_ | refine W.exit rfl ?_ | refine WL.box rfl rfl rfl ?_ | refine W.opsD ?_ | refine W.condT rfl ?_ | refine W.condF rfl ?_)
        simp only [foldS] at hfo
        cases hr : dfs s k st1 L[i] with
        | none => rw [hr] at hfo; simp only at hfo; rw [← hfo] at hd; cases hd
        | some p =>
          obtain ⟨st2, b2⟩ := p
          rw [hr] at hfo
          refine WL.effv rfl rfl rfl rfl ((IH st1 L[i] st2 b2 _ _ hr (hC2.mono (by omega))).mono ?_)
          rintro r h2 n2 ⟨rfl, hC3⟩
          cases b2 with
          | true =>
            simp only at hfo
            rw [← hfo] at hd
            simp only [Option.some.injEq, Prod.mk.injEq] at hd
            obtain ⟨rfl, rfl⟩ := hd
            repeat (first | refine W.seq ?_ | refine W.ops ?_ | refine WL.off rfl rfl ?_ | refine WL.val rfl rfl rfl ?_ | refine WL.nil ?_ | refine W.block ?_ | refine W.outBlock ?_ | refine W.skip ?_ | refine W.exit rfl ?_ | refine WL.box rfl rfl rfl ?_ | refine W.opsD ?_ | refine W.condT rfl ?_ | refine W.condF rfl ?_)
            exact W.ret ⟨_, rfl, rfl, hC3.mono (by dsimp only; omega)⟩
          | false =>
            repeat (first | refine W.seq ?_ | refine W.ops ?_ | refine WL.off rfl rfl ?_ | refine WL.val rfl rfl rfl ?_ | refine WL.nil ?_ | refine W.block ?_ | refine W.outBlock ?_ | refine W.skip ?_ | refine W.exit rfl ?_ | refine WL.box rfl rfl rfl ?_ | refine W.opsD ?_ | refine W.condT rfl ?_ | refine W.condF rfl ?_)
            refine ih (i + 1, st2) _ _ _ ⟨hlt, hC3.mono (by omega), hfo⟩ (by simp only; omega) (by rw [← wrap64_nat (k := i) (by omega)]; rfl)
      · have hge : i = L.length := by simp at hb2; omega
        subst hge
        rw [List.drop_length] at hfo
        simp only [foldS] at hfo
        rw [← hfo] at hd
        simp only [Option.some.injEq, Prod.mk.injEq] at hd
        obtain ⟨rfl, rfl⟩ := hd
        repeat (first | refine W.seq ?_ | refine W.ops ?_ | refine WL.off rfl rfl ?_ | refine WL.val rfl rfl rfl ?_ | refine WL.nil ?_ | refine W.block ?_ | refine W.outBlock ?_ | refine W.skip ?_ | refine W.exit rfl ?_ | refine WL.box rfl rfl rfl ?_ | refine W.opsD ?_ | refine W.condT rfl ?_ | refine W.condF rfl ?_)
        refine WL.val rfl (aop_load_h rfl hC2.t rfl) rfl ?_
        repeat (first | refine W.seq ?_ | refine W.ops ?_ | refine WL.off rfl rfl ?_ | refine WL.val rfl rfl rfl ?_ | refine WL.nil ?_ | refine W.block ?_ | refine W.outBlock ?_ | refine W.skip ?_ | refine W.exit rfl ?_ | refine WL.box rfl rfl rfl ?_ | refine W.opsD ?_ | refine W.condT rfl ?_ | refine W.condF rfl ?_)
        refine WL.mapupN (key := kp) (n := x) (mapIx_pair (fun p => p.1) x st1) rfl rfl rfl rfl hC2.m rfl (fun ob hob => ?_)
        repeat (first | refine W.seq ?_ | refine W.ops ?_ | refine WL.off rfl rfl ?_ | refine WL.val rfl rfl rfl ?_ | refine WL.nil ?_ | refine W.block ?_ | refine W.outBlock ?_ | refine W.skip ?_ | refine W.exit rfl ?_ | refine WL.box rfl rfl rfl ?_ | refine W.opsD ?_ | refine W.condT rfl ?_ | refine W.condF rfl ?_)
        exact W.ret ⟨_, rfl, rfl, hC2.put (by dsimp only; omega) hob⟩

/-- The search over all. -/
def cyc (s : Solv) (k : Nat) : Option Bool := (foldS (dfs s k) [] s.all).map (·.2)
theorem cycle_c (s : Solv) (a : AV) (hs : IsSolv s a) (k : Nat) (b : Bool) (hc : cyc s k = some b) : VC1 T 31 [a] (.bool b) := by
  have hs0 := hs
  obtain ⟨⟨sm1, sm2, sm3, sm4⟩, tv, bv, al, rfl, htv, hbv, hal⟩ := hs
  refine VC1.of (vf := v31) rfl rfl ?_
  unfold v31
  repeat (first | refine W.seq ?_ | refine W.ops ?_ | refine WL.off rfl rfl ?_ | refine WL.val rfl rfl rfl ?_ | refine WL.nil ?_ | refine W.block ?_ | refine W.outBlock ?_ | refine W.skip ?_ | refine W.exit rfl ?_ | refine WL.box rfl rfl rfl ?_ | refine W.opsD ?_ | refine W.condT rfl ?_ | refine W.condF rfl ?_ | refine WL.heap rfl rfl rfl ?_)
  refine WL.val rfl (aop_len_sl rfl hal) rfl ?_
  repeat (first | refine W.seq ?_ | refine W.ops ?_ | refine WL.off rfl rfl ?_ | refine WL.val rfl rfl rfl ?_ | refine WL.nil ?_ | refine W.block ?_ | refine W.outBlock ?_ | refine W.skip ?_ | refine W.exit rfl ?_ | refine WL.box rfl rfl rfl ?_ | refine W.opsD ?_ | refine W.condT rfl ?_ | refine W.condF rfl ?_ | refine WL.heap rfl rfl rfl ?_)
  refine W.loopE (E0 := envOf [(4, _), (12, _), (13, _), (14, _)]) rfl (β := Nat × Mem) (fun b => [(14, .v (.int .i64 b.1))])
    (fun b h n => b.1 ≤ s.all.length ∧ CH (.pptr [.pmap (s.tables.map fun t => .int .i64 t.1) tv, .pmap (s.blocks.map fun t => .int .i64 t.1) bv, .pmap (s.groups.map fun t => .int .i64 t.id) (s.groups.map fun g => .agg g.enc), al] 0) (1, 1) (0, 0) (2, 0) (1, 0) h n b.2 ∧ foldS (dfs s k) b.2 (s.all.drop b.1) = foldS (dfs s k) [] s.all)
    (fun b => s.all.length - b.1) (0, []) rfl ⟨by simp, ?_, rfl⟩ ?_
  · exact ⟨rfl, rfl, rfl, ⟨[], 0, rfl⟩, by repeat first | exact Fresh.empty _ | refine Fresh.put ?_ (by decide) (Nat.le_refl _), by decide, by decide, by decide⟩
  rintro ⟨i, st1⟩ h1 n1 ⟨hi, hC2, hfo⟩ ih
  dsimp only at hi hC2 hfo
  repeat (first | refine W.seq ?_ | refine W.ops ?_ | refine WL.off rfl rfl ?_ | refine WL.val rfl rfl rfl ?_ | refine WL.nil ?_ | refine W.block ?_ | refine W.outBlock ?_ | refine W.skip ?_ | refine W.exit rfl ?_ | refine WL.box rfl rfl rfl ?_ | refine W.opsD ?_ | refine W.condT rfl ?_ | refine W.condF rfl ?_)
  refine W.cond rfl (fun hb2 => ?_) (fun hb2 => ?_)
  · have hlt : i < s.all.length := by simpa using hb2
    rw [drop_cons hlt] at hfo
    repeat (first | refine W.seq ?_ | refine W.ops ?_ | refine WL.off rfl rfl ?_ | refine WL.val rfl rfl rfl ?_ | refine WL.nil ?_ | refine W.block ?_ | refine W.outBlock ?_ | refine W.skip ?_ | refine W.exit rfl ?_ | refine WL.box rfl rfl rfl ?_ | refine W.opsD ?_ | refine W.condT rfl ?_ | refine W.condF rfl ?_)
    refine WL.val rfl (aop_iaddr_sl rfl hal rfl hlt) rfl ?_
    refine WL.val rfl (aop_load_st (enc := encP) rfl (fun _ => rfl) hlt) rfl ?_
    repeat (first | refine W.seq ?_ | refine W.ops ?_ | refine WL.off rfl rfl ?_ | refine WL.val rfl rfl rfl ?_ | refine WL.nil ?_ | refine W.block ?_ | refine W.outBlock ?_ | refine W.skip ?_ | refine W.exit rfl ?_ | refine WL.box rfl rfl rfl ?_ | refine W.opsD ?_ | refine W.condT rfl ?_ | refine W.condF rfl ?_)
    refine WL.val rfl (aop_load_h rfl hC2.v rfl) rfl ?_
    repeat (first | refine W.seq ?_ | refine W.ops ?_ | refine WL.off rfl rfl ?_ | refine WL.val rfl rfl rfl ?_ | refine WL.nil ?_ | refine W.block ?_ | refine W.outBlock ?_ | refine W.skip ?_ | refine W.exit rfl ?_ | refine WL.box rfl rfl rfl ?_ | refine W.opsD ?_ | refine W.condT rfl ?_ | refine W.condF rfl ?_)
    simp only [foldS] at hfo
    unfold cyc at hc
    rw [← hfo] at hc
    cases hr : dfs s k st1 s.all[i] with
    | none => rw [hr] at hc; cases hc
    | some p =>
      obtain ⟨st2, b2⟩ := p
      rw [hr] at hfo hc
      refine WL.effv rfl rfl rfl rfl ((visit_c s _ hs0 _ _ _ _ k st1 s.all[i] st2 b2 _ _ hr (hC2.mono (by omega))).mono ?_)
      rintro r h2 n2 ⟨rfl, hC3⟩
      cases b2 with
      | true =>
        simp only [Option.map_some, Option.some.injEq] at hc
        subst hc
        repeat (first | refine W.seq ?_ | refine W.ops ?_ | refine WL.off rfl rfl ?_ | refine WL.val rfl rfl rfl ?_ | refine WL.nil ?_ | refine W.block ?_ | refine W.outBlock ?_ | refine W.skip ?_ | refine W.exit rfl ?_ | refine WL.box rfl rfl rfl ?_ | refine W.opsD ?_ | refine W.condT rfl ?_ | refine W.condF rfl ?_)
        exact W.ret ⟨_, rfl, rfl⟩
      | false =>
        repeat (first | refine W.seq ?_ | refine W.ops ?_ | refine WL.off rfl rfl ?_ | refine WL.val rfl rfl rfl ?_ | refine WL.nil ?_ | refine W.block ?_ | refine W.outBlock ?_ | refine W.skip ?_ | refine W.exit rfl ?_ | refine WL.box rfl rfl rfl ?_ | refine W.opsD ?_ | refine W.condT rfl ?_ | refine W.condF rfl ?_)
        refine ih (i + 1, st2) _ _ _ ⟨hlt, hC3.mono (by omega), hfo⟩ (by simp only; omega) (by rw [← wrap64_nat (k := i) (by omega)]; rfl)
  · have hge : i = s.all.length := by simp at hb2; omega
    subst hge
    rw [List.drop_length] at hfo
    simp only [foldS] at hfo
    unfold cyc at hc
    rw [← hfo] at hc
    simp only [Option.map_some, Option.some.injEq] at hc
    subst hc
    repeat (first | refine W.seq ?_ | refine W.ops ?_ | refine WL.off rfl rfl ?_ | refine WL.val rfl rfl rfl ?_ | refine WL.nil ?_ | refine W.block ?_ | refine W.outBlock ?_ | refine W.skip ?_ | refine W.exit rfl ?_ | refine WL.box rfl rfl rfl ?_ | refine W.opsD ?_ | refine W.condT rfl ?_ | refine W.condF rfl ?_)
    exact W.ret ⟨_, rfl, rfl⟩
end
end Go.AM.B

/- Package bound: the most steps (the reckoning with what is kept, as the program makes it). -/
namespace Go.AM.B
open Go.Proofs.Ytebogdeaiecldaa.Tab
noncomputable section
set_option linter.unusedVariables false
set_option maxHeartbeats 4000000

def over : Int := 65537
def foldN (f : Mem → Th → Option (Mem × Int)) (g : Int → Int → Int) : Mem → Int → List Th → Option (Mem × Int)
  | kept, n, [] => some (kept, n)
  | kept, n, y :: ys => match f kept y with
    | none => none
    | some (kept', r) => foldN f g kept' (g n r) ys
/-- A block's code, from behind: what is reckoned of each place on. -/
def codeF (f : Mem → Th → Option (Mem × Int)) : Mem → List Instr → Option (Mem × List Int)
  | kept, [] => some (kept, [0])
  | kept, i :: r => match codeF f kept r with
    | none => none
    | some (kept1, fs) =>
      if i.op = 23 ∨ i.op = 22 then some (kept1, min over (1 + 0) :: fs)
      else if i.op = 13 then (match f kept1 (0, i.n) with | none => none | some (kept2, n) => some (kept2, min over (1 + n) :: fs))
      else if i.op = 14 then (match f kept1 (2, i.n) with | none => none | some (kept2, n) => some (kept2, min over (1 + n) :: fs))
      else if i.op = 12 ∧ 0 ≤ i.n ∧ i.n < r.length then some (kept1, min over (1 + max (fs.getD 0 0) (fs.getD i.n.toNat 0)) :: fs)
      else some (kept1, min over (1 + fs.getD 0 0) :: fs)
def stepsF (s : Solv) : Nat → Mem → Th → Option (Mem × Int)
  | 0, _, _ => none
  | k + 1, kept, x => match mget kept x with
    | some n => some (kept, n)
    | none =>
      match (if x.1 = 0 then (match foldN (stepsF s k) max kept 0 ((lookL s.tables x.2).map fun b => (1, b)) with
            | none => none
            | some (kept', n) => some (kept', if (s.tables.find? fun t => t.1 == x.2).isSome then n + 1 else n))
          else if x.1 = 1 then (match codeF (stepsF s k) kept (lookL s.blocks x.2) with
            | none => none
            | some (kept', fs) => some (kept', fs.getD 0 0))
          else foldN (stepsF s k) (fun n r => if kindOf (s.group x.2) = 1 then min over (n + r) else max n r) kept 0 ((s.buckets x.2).map fun b => (1, b.block))) with
      | none => none
      | some (kept', n) => some (mput kept' x (min over n), min over n)

structure MH (a : AV) (oKp oS oSt oC oK : AM.Id) (h : Heap) (n : Nat) (kept : Mem) : Prop where
  kp : h.get oKp = some (.cells [.map oK])
  s : h.get oS = some (.cells [a])
  st : h.get oSt = some (.cells [.func (.func 57) [] [.ptr oKp 0, .ptr oS 0, .ptr oSt 0, .ptr oC 0]])
  c : h.get oC = some (.cells [.func (.func 56) [] [.ptr oSt 0]])
  m : MapN AM.kp h oK kept
  fr : Fresh h n
  n1 : oKp ≠ oK
  n2 : oS ≠ oK
  n3 : oSt ≠ oK
  n4 : oC ≠ oK
  bnd : ∀ p ∈ kept, 0 ≤ p.2 ∧ p.2 ≤ 65537
theorem MH.mono {a : AV} {oKp oS oSt oC oK : AM.Id} {h : Heap} {n m : Nat} {kept : Mem} (H : MH a oKp oS oSt oC oK h n kept) (hm : n ≤ m) : MH a oKp oS oSt oC oK h m kept :=
  { H with fr := H.fr.mono hm }
def Lts (oKp oS oSt oC oK : AM.Id) (n : Nat) : Prop := oKp.1 < n ∧ oS.1 < n ∧ oSt.1 < n ∧ oC.1 < n ∧ oK.1 < n
theorem MH.lts {a : AV} {oKp oS oSt oC oK : AM.Id} {h : Heap} {n : Nat} {kept : Mem} (H : MH a oKp oS oSt oC oK h n kept) : Lts oKp oS oSt oC oK n := by
  obtain ⟨b, c, e⟩ := H.m
  exact ⟨H.fr _ _ H.kp, H.fr _ _ H.s, H.fr _ _ H.st, H.fr _ _ H.c, H.fr _ _ e⟩
/-- Younger objects may turn. -/
theorem MH.frame {a : AV} {oKp oS oSt oC oK : AM.Id} {h h' : Heap} {n n0 m : Nat} {kept : Mem} (H : MH a oKp oS oSt oC oK h n kept) (L : Lts oKp oS oSt oC oK n0) (hf : ∀ j, j.1 < n0 → h'.get j = h.get j) (hr : Fresh h' m) : MH a oKp oS oSt oC oK h' m kept := by
  obtain ⟨b, c, e⟩ := H.m
  obtain ⟨l1, l2, l3, l4, l5⟩ := L
  exact ⟨(hf _ l1).trans H.kp, (hf _ l2).trans H.s, (hf _ l3).trans H.st, (hf _ l4).trans H.c, ⟨b, c, (hf _ l5).trans e⟩, hr, H.n1, H.n2, H.n3, H.n4, H.bnd⟩

def Keeps (n : Nat) (oK : AM.Id) (h h' : Heap) : Prop := ∀ j, j.1 < n → j ≠ oK → h'.get j = h.get j
def StepsOk (s : Solv) (a : AV) (oKp oS oSt oC oK : AM.Id) (f : Mem → Th → Option (Mem × Int)) : Prop :=
  ∀ (kept : Mem) (x : Th) (kept' : Mem) (r : Int) (h : Heap) (n : Nat), f kept x = some (kept', r) → MH a oKp oS oSt oC oK h n kept →
    CallsTo T 57 [.agg (encP x), .ptr oKp 0, .ptr oS 0, .ptr oSt 0, .ptr oC 0] h n fun v h' n' => v = .int .i64 r ∧ MH a oKp oS oSt oC oK h' n' kept' ∧ n ≤ n' ∧ Keeps n oK h h' ∧ 0 ≤ r ∧ r ≤ 65537

theorem codeF_len {f : Mem → Th → Option (Mem × Int)} : ∀ {l : List Instr} {kept kept' : Mem} {fs : List Int}, codeF f kept l = some (kept', fs) → fs.length = l.length + 1 := by
  intro l
  induction l with
  | nil => intro kept kept' fs h; simp only [codeF, Option.some.injEq, Prod.mk.injEq] at h; rw [← h.2]; rfl
  | cons i r ih =>
    intro kept kept' fs h
    simp only [codeF] at h
    cases hr : codeF f kept r with
    | none => rw [hr] at h; cases h
    | some p =>
      obtain ⟨k1, fs1⟩ := p
      rw [hr] at h
      have := ih hr
      simp only at h
      split at h
      · simp only [Option.some.injEq, Prod.mk.injEq] at h; rw [← h.2]; simp [this]
      · split at h
        · split at h
          · cases h
          · simp only [Option.some.injEq, Prod.mk.injEq] at h; rw [← h.2]; simp [this]
        · split at h
          · split at h
            · cases h
            · simp only [Option.some.injEq, Prod.mk.injEq] at h; rw [← h.2]; simp [this]
          · split at h
            · simp only [Option.some.injEq, Prod.mk.injEq] at h; rw [← h.2]; simp [this]
            · simp only [Option.some.injEq, Prod.mk.injEq] at h; rw [← h.2]; simp [this]

theorem codeF_drop {f : Mem → Th → Option (Mem × Int)} : ∀ {l : List Instr} {kept : Mem} {p : Mem × List Int}, codeF f kept l = some p → ∀ i, ∃ q, codeF f kept (l.drop i) = some q := by
  intro l
  induction l with
  | nil => intro kept p h i; exact ⟨p, by simpa using h⟩
  | cons x r ih =>
    intro kept p h i
    cases i with
    | zero => exact ⟨p, h⟩
    | succ i =>
      simp only [codeF] at h
      cases hr : codeF f kept r with
      | none => rw [hr] at h; cases h
      | some q => exact ih hr i

theorem rep_one (n : Nat) (a : AV) : rep n [a] = List.replicate n a := by
  induction n with
  | zero => rfl
  | succ n ih => simp only [rep, ih, List.replicate_succ]; rfl
theorem aop_make1 {E : Env} {H : Heap} {nid : AM.Id} {d : Option Nat} {z : AV} {bytes : Nat} {l : Operand} {n : Int} {m : Nat} (hl : evA E l = some (.int .i64 n)) (hn : n = m) (hb : m * bytes ≤ 140737488355328) :
    aop E H nid d (.mkslice [z] bytes l l) = some ⟨.v (.slice nid 0 m 1 true), none, [(nid, .cells (List.replicate m z))], none, [], [.obj nid]⟩ := by
  subst hn
  have h1 : decide ((0 : Int) ≤ (m : Int)) = true := decide_eq_true (by omega)
  have h2 : decide ((m : Int) ≤ (m : Int)) = true := decide_eq_true (by omega)
  have h3 : decide ((m : Int) * (bytes : Int) ≤ 140737488355328) = true := decide_eq_true (by have : ((m * bytes : Nat) : Int) ≤ 140737488355328 := (by omega); rwa [Int.natCast_mul] at this)
  simp only [aop, hl]
  rw [h1, h2, h3]
  simp only [Bool.and_self, cond_true, Int.toNat_natCast, beq_self_eq_true, rep_one, List.length_cons, List.length_nil]

theorem upd_rep {i : Nat} {z a : AV} {X : List AV} : upd (List.replicate (i + 1) z ++ X) (0 + i * 1) [a] = some (List.replicate i z ++ a :: X) := by
  have e : List.replicate (i + 1) z ++ X = List.replicate i z ++ z :: X := by rw [List.replicate_succ']; simp
  rw [e, Nat.zero_add, Nat.mul_one, upd_one (by simp)]
  rw [List.set_append_right _ _ (by simp)]
  simp
theorem code_c (s : Solv) (a : AV) (oKp oS oSt oC oK : AM.Id) (f : Mem → Th → Option (Mem × Int)) (hf : StepsOk s a oKp oS oSt oC oK f) (l : List Instr) (v : AV) (hv : SlV 7 (l.flatMap Instr.enc) l.length v) (hl : l.length < 1000000)
    (kept kept' : Mem) (fs : List Int) (h : Heap) (n : Nat) (hc : codeF f kept l = some (kept', fs)) (hM : MH a oKp oS oSt oC oK h n kept) :
    CallsTo T 56 [v, .ptr oSt 0] h n fun r h' n' => r = .int .i64 (fs.getD 0 0) ∧ MH a oKp oS oSt oC oK h' n' kept' ∧ n ≤ n' ∧ Keeps n oK h h' ∧ 0 ≤ fs.getD 0 0 ∧ fs.getD 0 0 ≤ 65537 := by
  refine CallsTo.of (vf := v56) rfl rfl ?_
  unfold v56
  repeat (first | refine W.seq ?_ | refine W.ops ?_ | refine WL.off rfl rfl ?_ | refine WL.val rfl rfl rfl ?_ | refine WL.nil ?_ | refine W.block ?_ | refine W.outBlock ?_ | refine W.skip ?_ | refine W.exit rfl ?_ | refine WL.box rfl rfl rfl ?_ | refine W.opsD ?_ | refine W.condT rfl ?_ | refine W.condF rfl ?_)
  refine WL.val rfl (aop_move_nj rfl hv.nj) rfl ?_
  refine WL.val rfl (aop_len_sl rfl hv) rfl ?_
  repeat (first | refine W.seq ?_ | refine W.ops ?_ | refine WL.off rfl rfl ?_ | refine WL.val rfl rfl rfl ?_ | refine WL.nil ?_ | refine W.block ?_ | refine W.outBlock ?_ | refine W.skip ?_ | refine W.exit rfl ?_ | refine WL.box rfl rfl rfl ?_ | refine W.opsD ?_ | refine W.condT rfl ?_ | refine W.condF rfl ?_)
  refine WL.heap rfl (aop_make1 rfl (wrap64_nat (by omega)) (by omega)) rfl ?_
  repeat (first | refine W.seq ?_ | refine W.ops ?_ | refine WL.off rfl rfl ?_ | refine WL.val rfl rfl rfl ?_ | refine WL.nil ?_ | refine W.block ?_ | refine W.outBlock ?_ | refine W.skip ?_ | refine W.exit rfl ?_ | refine WL.box rfl rfl rfl ?_ | refine W.opsD ?_ | refine W.condT rfl ?_ | refine W.condF rfl ?_)
  refine WL.val rfl (aop_move_nj rfl hv.nj) rfl ?_
  refine WL.val rfl (aop_len_sl rfl hv) rfl ?_
  repeat (first | refine W.seq ?_ | refine W.ops ?_ | refine WL.off rfl rfl ?_ | refine WL.val rfl rfl rfl ?_ | refine WL.nil ?_ | refine W.block ?_ | refine W.outBlock ?_ | refine W.skip ?_ | refine W.exit rfl ?_ | refine WL.box rfl rfl rfl ?_ | refine W.opsD ?_ | refine W.condT rfl ?_ | refine W.condF rfl ?_)
  refine W.loopE (E0 := envOf [(0, _), (1, _), (4, _), (5, _)]) rfl (β := Nat × Mem × List Int) (fun b => [(5, .v (.int .i64 ((b.1 : Int) - 1)))])
    (fun b h1 n1 => b.1 ≤ l.length ∧ codeF f kept (l.drop b.1) = some (b.2.1, b.2.2) ∧ MH a oKp oS oSt oC oK h1 n1 b.2.1 ∧ h1.get (n + 1, 3) = some (.cells (List.replicate b.1 (.int .i64 0) ++ b.2.2.map fun r => .int .i64 r)) ∧ n + 2 ≤ n1 ∧ Keeps n oK h h1 ∧ ∀ r ∈ b.2.2, 0 ≤ r ∧ r ≤ 65537)
    (fun b => b.1) (l.length, kept, [0]) (by rw [show IntKind.wrap .i64 ((l.length : Int) - 1) = _ from wrap64 (by omega) (by omega)]; rfl) ⟨Nat.le_refl _, by rw [List.drop_length]; rfl, ?_, ?_, by omega, ?_, by simp⟩ ?_
  · refine hM.frame hM.lts (fun j hj => ?_) (hM.fr.put (by simp) (by omega))
    rw [Heap.get_put, if_neg]
    intro e; rw [e] at hj; simp at hj; omega
  · rw [Heap.get_put, if_pos rfl]
    simp [List.replicate_succ']
  · intro j hj _
    rw [Heap.get_put, if_neg]
    intro e; rw [e] at hj; simp at hj; omega
  rintro ⟨m, kept1, fs1⟩ h1 n1 ⟨hm, hc1, hM1, hF, hn1, hK, hb1⟩ ih
  dsimp only at hm hc1 hM1 hF hn1 hK hb1
  repeat (first | refine W.seq ?_ | refine W.ops ?_ | refine WL.off rfl rfl ?_ | refine WL.val rfl rfl rfl ?_ | refine WL.nil ?_ | refine W.block ?_ | refine W.outBlock ?_ | refine W.skip ?_ | refine W.exit rfl ?_ | refine WL.box rfl rfl rfl ?_ | refine W.opsD ?_ | refine W.condT rfl ?_ | refine W.condF rfl ?_)
  refine W.cond rfl (fun hb2 => ?_) (fun hb2 => ?_)
  · have hlt : 0 < m := by have := of_decide_eq_true hb2; dsimp only at this; omega
    obtain ⟨i, rfl⟩ : ∃ i, m = i + 1 := ⟨m - 1, by omega⟩
    have hi : i < l.length := by omega
    have hfl := codeF_len hc1
    rw [List.length_drop] at hfl
    have ei : IntKind.wrap .i64 (((i + 1 : Nat) : Int) - 1 + 1) = ((i + 1 : Nat) : Int) := by rw [wrap64 (by omega) (by omega)]; omega
    have ej : (((i + 1 : Nat) : Int) - 1) = (i : Int) := by omega
    repeat (first | refine W.seq ?_ | refine W.ops ?_ | refine WL.off rfl rfl ?_ | refine WL.val rfl rfl rfl ?_ | refine WL.nil ?_ | refine W.block ?_ | refine W.outBlock ?_ | refine W.skip ?_ | refine W.exit rfl ?_ | refine WL.box rfl rfl rfl ?_ | refine W.opsD ?_ | refine W.condT rfl ?_ | refine W.condF rfl ?_)
    refine WL.val rfl (aop_iaddr_h rfl rfl (by omega) ei) rfl ?_
    have hcell : (List.replicate (i + 1) (AV.int .i64 0) ++ fs1.map fun r => AV.int .i64 r)[0 + (i + 1) * 1]? = some (.int .i64 (fs1.getD 0 0)) := by
      rw [List.getElem?_append_right (by simp)]
      cases fs1 with
      | nil => simp at hfl
      | cons x r => simp
    refine WL.val rfl (aop_load_h rfl hF hcell) rfl ?_
    repeat (first | refine W.seq ?_ | refine W.ops ?_ | refine WL.off rfl rfl ?_ | refine WL.val rfl rfl rfl ?_ | refine WL.nil ?_ | refine W.block ?_ | refine W.outBlock ?_ | refine W.skip ?_ | refine W.exit rfl ?_ | refine WL.box rfl rfl rfl ?_ | refine W.opsD ?_ | refine W.condT rfl ?_ | refine W.condF rfl ?_)
    refine WL.val rfl (aop_move_nj rfl hv.nj) rfl ?_
    repeat (first | refine W.seq ?_ | refine W.ops ?_ | refine WL.off rfl rfl ?_ | refine WL.val rfl rfl rfl ?_ | refine WL.nil ?_ | refine W.block ?_ | refine W.outBlock ?_ | refine W.skip ?_ | refine W.exit rfl ?_ | refine WL.box rfl rfl rfl ?_ | refine W.opsD ?_ | refine W.condT rfl ?_ | refine W.condF rfl ?_)
    refine WL.val rfl (aop_iaddr_sl rfl hv rfl hi ej) rfl ?_
    repeat (first | refine W.seq ?_ | refine W.ops ?_ | refine WL.off rfl rfl ?_ | refine WL.val rfl rfl rfl ?_ | refine WL.nil ?_ | refine W.block ?_ | refine W.outBlock ?_ | refine W.skip ?_ | refine W.exit rfl ?_ | refine WL.box rfl rfl rfl ?_ | refine W.opsD ?_ | refine W.condT rfl ?_ | refine W.condF rfl ?_)
    refine WL.val rfl (aop_load_el (enc := Instr.enc) (o := 0) rfl (fun _ => rfl) hi (by decide) rfl) rfl ?_
    repeat (first | refine W.seq ?_ | refine W.ops ?_ | refine WL.off rfl rfl ?_ | refine WL.val rfl rfl rfl ?_ | refine WL.nil ?_ | refine W.block ?_ | refine W.outBlock ?_ | refine W.skip ?_ | refine W.exit rfl ?_ | refine WL.box rfl rfl rfl ?_ | refine W.opsD ?_ | refine W.condT rfl ?_ | refine W.condF rfl ?_)
    have hFK : (n + 1, 3) ≠ oK := by intro e; have := hM.lts.2.2.2.2; rw [← e] at this; simp at this; omega
    have hb0 : 0 ≤ fs1.getD 0 0 ∧ fs1.getD 0 0 ≤ 65537 := by
      cases fs1 with
      | nil => simp at hfl
      | cons x r => exact hb1 x (by simp)
    have hdr : l.drop i = l[i] :: l.drop (i + 1) := List.drop_eq_getElem_cons hi
    refine W.cond rfl (fun ho => ?_) (fun ho => ?_)
    · have o1 : l[i].op = 23 := by simpa using ho
      have hcc : codeF f kept (l.drop i) = some (kept1, min over (1 + 0) :: fs1) := by rw [hdr]; simp only [codeF, hc1, o1, true_or, if_true]
      repeat (first | refine W.seq ?_ | refine W.ops ?_ | refine WL.off rfl rfl ?_ | refine WL.val rfl rfl rfl ?_ | refine WL.nil ?_ | refine W.block ?_ | refine W.outBlock ?_ | refine W.skip ?_ | refine W.exit rfl ?_ | refine WL.box rfl rfl rfl ?_ | refine W.opsD ?_ | refine W.condT rfl ?_ | refine W.condF rfl ?_)
      refine W.condT (congrArg (fun b => some (AV.bool b)) ho) ?_
      have ew : IntKind.wrap .i64 (1 + 0) = 1 + 0 := wrap64 (by have := (by omega : (0 : Int) ≤ 0); omega) (by have := (by omega : (0 : Int) ≤ 65537); omega)
      repeat (first | refine W.seq ?_ | refine W.ops ?_ | refine WL.off rfl rfl ?_ | refine WL.val rfl rfl rfl ?_ | refine WL.nil ?_ | refine W.block ?_ | refine W.outBlock ?_ | refine W.skip ?_ | refine W.exit rfl ?_ | refine WL.box rfl rfl rfl ?_ | refine W.opsD ?_ | refine W.condT rfl ?_ | refine W.condF rfl ?_)
      refine WL.val rfl (aop_iaddr_h rfl rfl (by omega) ej) rfl ?_
      refine WL.heap rfl (aop_store_h rfl rfl rfl rfl hF (by rw [ew]; exact upd_rep)) rfl ?_
      repeat (first | refine W.seq ?_ | refine W.ops ?_ | refine WL.off rfl rfl ?_ | refine WL.val rfl rfl rfl ?_ | refine WL.nil ?_ | refine W.block ?_ | refine W.outBlock ?_ | refine W.skip ?_ | refine W.exit rfl ?_ | refine WL.box rfl rfl rfl ?_ | refine W.opsD ?_ | refine W.condT rfl ?_ | refine W.condF rfl ?_)
      refine ih (i, kept1, min over (1 + 0) :: fs1) _ _ _ ⟨by omega, hcc, ?_, ?_, by omega, ?_, ?_⟩ (by simp only; omega) (by rw [show IntKind.wrap .i64 (((i + 1 : Nat) : Int) - 1 - 1) = ((i : Int) - 1) from by rw [wrap64 (by omega) (by omega)]; omega]; rfl)
      · refine hM1.frame hM.lts (fun j hj => ?_) (hM1.fr.put (by simp; omega) (by omega))
        rw [Heap.get_put, if_neg]
        intro e; rw [e] at hj; simp at hj; omega
      · rw [Heap.get_put, if_pos rfl]; rfl
      · intro j hj hne
        rw [Heap.get_put, if_neg (fun e => by rw [e] at hj; simp at hj; omega)]
        exact hK j hj hne
      · intro r hr
        rcases List.mem_cons.1 hr with rfl | hr
        · have h1 := (by omega : (0 : Int) ≤ 0)
          have h2 := (by omega : (0 : Int) ≤ 65537)
          unfold over; omega
        · exact hb1 r hr
    · have o1 : l[i].op ≠ 23 := by simpa using ho
      repeat (first | refine W.seq ?_ | refine W.ops ?_ | refine WL.off rfl rfl ?_ | refine WL.val rfl rfl rfl ?_ | refine WL.nil ?_ | refine W.block ?_ | refine W.outBlock ?_ | refine W.skip ?_ | refine W.exit rfl ?_ | refine WL.box rfl rfl rfl ?_ | refine W.opsD ?_ | refine W.condT rfl ?_ | refine W.condF rfl ?_)
      refine W.cond rfl (fun ho2 => ?_) (fun ho2 => ?_)
      · have o2 : l[i].op = 22 := by simpa using ho2
        have hcc : codeF f kept (l.drop i) = some (kept1, min over (1 + 0) :: fs1) := by rw [hdr]; simp only [codeF, hc1, o2, or_true, if_true]
        have ew : IntKind.wrap .i64 (1 + 0) = 1 + 0 := wrap64 (by have := (by omega : (0 : Int) ≤ 0); omega) (by have := (by omega : (0 : Int) ≤ 65537); omega)
        repeat (first | refine W.seq ?_ | refine W.ops ?_ | refine WL.off rfl rfl ?_ | refine WL.val rfl rfl rfl ?_ | refine WL.nil ?_ | refine W.block ?_ | refine W.outBlock ?_ | refine W.skip ?_ | refine W.exit rfl ?_ | refine WL.box rfl rfl rfl ?_ | refine W.opsD ?_ | refine W.condT rfl ?_ | refine W.condF rfl ?_)
        refine WL.val rfl (aop_iaddr_h rfl rfl (by omega) ej) rfl ?_
        refine WL.heap rfl (aop_store_h rfl rfl rfl rfl hF (by rw [ew]; exact upd_rep)) rfl ?_
        repeat (first | refine W.seq ?_ | refine W.ops ?_ | refine WL.off rfl rfl ?_ | refine WL.val rfl rfl rfl ?_ | refine WL.nil ?_ | refine W.block ?_ | refine W.outBlock ?_ | refine W.skip ?_ | refine W.exit rfl ?_ | refine WL.box rfl rfl rfl ?_ | refine W.opsD ?_ | refine W.condT rfl ?_ | refine W.condF rfl ?_)
        refine ih (i, kept1, min over (1 + 0) :: fs1) _ _ _ ⟨by omega, hcc, ?_, ?_, by omega, ?_, ?_⟩ (by simp only; omega) (by rw [show IntKind.wrap .i64 (((i + 1 : Nat) : Int) - 1 - 1) = ((i : Int) - 1) from by rw [wrap64 (by omega) (by omega)]; omega]; rfl)
        · refine hM1.frame hM.lts (fun j hj => ?_) (hM1.fr.put (by simp; omega) (by omega))
          rw [Heap.get_put, if_neg]
          intro e; rw [e] at hj; simp at hj; omega
        · rw [Heap.get_put, if_pos rfl]; rfl
        · intro j hj hne
          rw [Heap.get_put, if_neg (fun e => by rw [e] at hj; simp at hj; omega)]
          exact hK j hj hne
        · intro r hr
          rcases List.mem_cons.1 hr with rfl | hr
          · have h1 := (by omega : (0 : Int) ≤ 0)
            have h2 := (by omega : (0 : Int) ≤ 65537)
            unfold over; omega
          · exact hb1 r hr
      · have o2 : l[i].op ≠ 22 := by simpa using ho2
        have hor : ¬(l[i].op = 23 ∨ l[i].op = 22) := by omega
        repeat (first | refine W.seq ?_ | refine W.ops ?_ | refine WL.off rfl rfl ?_ | refine WL.val rfl rfl rfl ?_ | refine WL.nil ?_ | refine W.block ?_ | refine W.outBlock ?_ | refine W.skip ?_ | refine W.exit rfl ?_ | refine WL.box rfl rfl rfl ?_ | refine W.opsD ?_ | refine W.condT rfl ?_ | refine W.condF rfl ?_)
        refine W.cond rfl (fun ho3 => ?_) (fun ho3 => ?_)
        · have o3 : l[i].op = 13 := by simpa using ho3
          repeat (first | refine W.seq ?_ | refine W.ops ?_ | refine WL.off rfl rfl ?_ | refine WL.val rfl rfl rfl ?_ | refine WL.nil ?_ | refine W.block ?_ | refine W.outBlock ?_ | refine W.skip ?_ | refine W.exit rfl ?_ | refine WL.box rfl rfl rfl ?_ | refine W.opsD ?_ | refine W.condT rfl ?_ | refine W.condF rfl ?_)
          refine WL.val rfl (aop_load_h rfl hM1.st rfl) rfl ?_
          repeat (first | refine W.seq ?_ | refine W.ops ?_ | refine WL.off rfl rfl ?_ | refine WL.val rfl rfl rfl ?_ | refine WL.nil ?_ | refine W.block ?_ | refine W.outBlock ?_ | refine W.skip ?_ | refine W.exit rfl ?_ | refine WL.box rfl rfl rfl ?_ | refine W.opsD ?_ | refine W.condT rfl ?_ | refine W.condF rfl ?_)
          refine WL.val rfl (aop_move_nj rfl hv.nj) rfl ?_
          repeat (first | refine W.seq ?_ | refine W.ops ?_ | refine WL.off rfl rfl ?_ | refine WL.val rfl rfl rfl ?_ | refine WL.nil ?_ | refine W.block ?_ | refine W.outBlock ?_ | refine W.skip ?_ | refine W.exit rfl ?_ | refine WL.box rfl rfl rfl ?_ | refine W.opsD ?_ | refine W.condT rfl ?_ | refine W.condF rfl ?_)
          refine WL.val rfl (aop_iaddr_sl rfl hv rfl hi ej) rfl ?_
          repeat (first | refine W.seq ?_ | refine W.ops ?_ | refine WL.off rfl rfl ?_ | refine WL.val rfl rfl rfl ?_ | refine WL.nil ?_ | refine W.block ?_ | refine W.outBlock ?_ | refine W.skip ?_ | refine W.exit rfl ?_ | refine WL.box rfl rfl rfl ?_ | refine W.opsD ?_ | refine W.condT rfl ?_ | refine W.condF rfl ?_)
          refine WL.val rfl (aop_load_el (enc := Instr.enc) (o := 6) rfl (fun _ => rfl) hi (by decide) rfl) rfl ?_
          repeat (first | refine W.seq ?_ | refine W.ops ?_ | refine WL.off rfl rfl ?_ | refine WL.val rfl rfl rfl ?_ | refine WL.nil ?_ | refine W.block ?_ | refine W.outBlock ?_ | refine W.skip ?_ | refine W.exit rfl ?_ | refine WL.box rfl rfl rfl ?_ | refine W.opsD ?_ | refine W.condT rfl ?_ | refine W.condF rfl ?_)
          cases hr : f kept1 (0, l[i].n) with
          | none =>
            obtain ⟨q, hq⟩ := codeF_drop hc i
            rw [hdr] at hq
            simp only [codeF, hc1] at hq
            rw [if_neg hor, if_pos o3, hr] at hq
            cases hq
          | some p =>
            obtain ⟨kept2, r⟩ := p
            refine WL.effv rfl rfl rfl rfl ((hf kept1 (0, l[i].n) kept2 r _ _ hr (hM1.mono (by omega))).mono ?_)
            rintro u h2 n2 ⟨rfl, hM2, hn2, hK2, hlo, hhi⟩
            have hcc : codeF f kept (l.drop i) = some (kept2, min over (1 + r) :: fs1) := by
              rw [hdr]; simp only [codeF, hc1]; rw [if_neg hor, if_pos o3, hr]
            have hF2 : h2.get (n + 1, 3) = some (.cells (List.replicate (i + 1) (.int .i64 0) ++ fs1.map fun r => .int .i64 r)) := (hK2 _ (by simp; omega) hFK).trans hF
            have hK3 : Keeps n oK h h2 := fun j h1 h3 => (hK2 j (by omega) h3).trans (hK j h1 h3)
            have ew : IntKind.wrap .i64 (1 + r) = 1 + r := wrap64 (by have := hlo; omega) (by have := hhi; omega)
            repeat (first | refine W.seq ?_ | refine W.ops ?_ | refine WL.off rfl rfl ?_ | refine WL.val rfl rfl rfl ?_ | refine WL.nil ?_ | refine W.block ?_ | refine W.outBlock ?_ | refine W.skip ?_ | refine W.exit rfl ?_ | refine WL.box rfl rfl rfl ?_ | refine W.opsD ?_ | refine W.condT rfl ?_ | refine W.condF rfl ?_)
            refine WL.val rfl (aop_iaddr_h rfl rfl (by omega) ej) rfl ?_
            refine WL.heap rfl (aop_store_h rfl rfl rfl rfl hF2 (by rw [ew]; exact upd_rep)) rfl ?_
            repeat (first | refine W.seq ?_ | refine W.ops ?_ | refine WL.off rfl rfl ?_ | refine WL.val rfl rfl rfl ?_ | refine WL.nil ?_ | refine W.block ?_ | refine W.outBlock ?_ | refine W.skip ?_ | refine W.exit rfl ?_ | refine WL.box rfl rfl rfl ?_ | refine W.opsD ?_ | refine W.condT rfl ?_ | refine W.condF rfl ?_)
            refine ih (i, kept2, min over (1 + r) :: fs1) _ _ _ ⟨by omega, hcc, ?_, ?_, by omega, ?_, ?_⟩ (by simp only; omega) (by rw [show IntKind.wrap .i64 (((i + 1 : Nat) : Int) - 1 - 1) = ((i : Int) - 1) from by rw [wrap64 (by omega) (by omega)]; omega]; rfl)
            · refine hM2.frame hM.lts (fun j hj => ?_) (hM2.fr.put (by simp; omega) (by omega))
              rw [Heap.get_put, if_neg]
              intro e; rw [e] at hj; simp at hj; omega
            · rw [Heap.get_put, if_pos rfl]; rfl
            · intro j hj hne
              rw [Heap.get_put, if_neg (fun e => by rw [e] at hj; simp at hj; omega)]
              exact hK3 j hj hne
            · intro r hr
              rcases List.mem_cons.1 hr with rfl | hr
              · have h1 := hlo
                have h2 := hhi
                unfold over; omega
              · exact hb1 r hr
        · have o3 : l[i].op ≠ 13 := by simpa using ho3
          repeat (first | refine W.seq ?_ | refine W.ops ?_ | refine WL.off rfl rfl ?_ | refine WL.val rfl rfl rfl ?_ | refine WL.nil ?_ | refine W.block ?_ | refine W.outBlock ?_ | refine W.skip ?_ | refine W.exit rfl ?_ | refine WL.box rfl rfl rfl ?_ | refine W.opsD ?_ | refine W.condT rfl ?_ | refine W.condF rfl ?_)
          refine W.cond rfl (fun ho4 => ?_) (fun ho4 => ?_)
          · have o4 : l[i].op = 14 := by simpa using ho4
            repeat (first | refine W.seq ?_ | refine W.ops ?_ | refine WL.off rfl rfl ?_ | refine WL.val rfl rfl rfl ?_ | refine WL.nil ?_ | refine W.block ?_ | refine W.outBlock ?_ | refine W.skip ?_ | refine W.exit rfl ?_ | refine WL.box rfl rfl rfl ?_ | refine W.opsD ?_ | refine W.condT rfl ?_ | refine W.condF rfl ?_)
            refine WL.val rfl (aop_load_h rfl hM1.st rfl) rfl ?_
            repeat (first | refine W.seq ?_ | refine W.ops ?_ | refine WL.off rfl rfl ?_ | refine WL.val rfl rfl rfl ?_ | refine WL.nil ?_ | refine W.block ?_ | refine W.outBlock ?_ | refine W.skip ?_ | refine W.exit rfl ?_ | refine WL.box rfl rfl rfl ?_ | refine W.opsD ?_ | refine W.condT rfl ?_ | refine W.condF rfl ?_)
            refine WL.val rfl (aop_move_nj rfl hv.nj) rfl ?_
            repeat (first | refine W.seq ?_ | refine W.ops ?_ | refine WL.off rfl rfl ?_ | refine WL.val rfl rfl rfl ?_ | refine WL.nil ?_ | refine W.block ?_ | refine W.outBlock ?_ | refine W.skip ?_ | refine W.exit rfl ?_ | refine WL.box rfl rfl rfl ?_ | refine W.opsD ?_ | refine W.condT rfl ?_ | refine W.condF rfl ?_)
            refine WL.val rfl (aop_iaddr_sl rfl hv rfl hi ej) rfl ?_
            repeat (first | refine W.seq ?_ | refine W.ops ?_ | refine WL.off rfl rfl ?_ | refine WL.val rfl rfl rfl ?_ | refine WL.nil ?_ | refine W.block ?_ | refine W.outBlock ?_ | refine W.skip ?_ | refine W.exit rfl ?_ | refine WL.box rfl rfl rfl ?_ | refine W.opsD ?_ | refine W.condT rfl ?_ | refine W.condF rfl ?_)
            refine WL.val rfl (aop_load_el (enc := Instr.enc) (o := 6) rfl (fun _ => rfl) hi (by decide) rfl) rfl ?_
            repeat (first | refine W.seq ?_ | refine W.ops ?_ | refine WL.off rfl rfl ?_ | refine WL.val rfl rfl rfl ?_ | refine WL.nil ?_ | refine W.block ?_ | refine W.outBlock ?_ | refine W.skip ?_ | refine W.exit rfl ?_ | refine WL.box rfl rfl rfl ?_ | refine W.opsD ?_ | refine W.condT rfl ?_ | refine W.condF rfl ?_)
            cases hr : f kept1 (2, l[i].n) with
            | none =>
              obtain ⟨q, hq⟩ := codeF_drop hc i
              rw [hdr] at hq
              simp only [codeF, hc1] at hq
              rw [if_neg hor, if_neg o3, if_pos o4, hr] at hq
              cases hq
            | some p =>
              obtain ⟨kept2, r⟩ := p
              refine WL.effv rfl rfl rfl rfl ((hf kept1 (2, l[i].n) kept2 r _ _ hr (hM1.mono (by omega))).mono ?_)
              rintro u h2 n2 ⟨rfl, hM2, hn2, hK2, hlo, hhi⟩
              have hcc : codeF f kept (l.drop i) = some (kept2, min over (1 + r) :: fs1) := by
                rw [hdr]; simp only [codeF, hc1]; rw [if_neg hor, if_neg o3, if_pos o4, hr]
              have hF2 : h2.get (n + 1, 3) = some (.cells (List.replicate (i + 1) (.int .i64 0) ++ fs1.map fun r => .int .i64 r)) := (hK2 _ (by simp; omega) hFK).trans hF
              have hK3 : Keeps n oK h h2 := fun j h1 h3 => (hK2 j (by omega) h3).trans (hK j h1 h3)
              have ew : IntKind.wrap .i64 (1 + r) = 1 + r := wrap64 (by have := hlo; omega) (by have := hhi; omega)
              repeat (first | refine W.seq ?_ | refine W.ops ?_ | refine WL.off rfl rfl ?_ | refine WL.val rfl rfl rfl ?_ | refine WL.nil ?_ | refine W.block ?_ | refine W.outBlock ?_ | refine W.skip ?_ | refine W.exit rfl ?_ | refine WL.box rfl rfl rfl ?_ | refine W.opsD ?_ | refine W.condT rfl ?_ | refine W.condF rfl ?_)
              refine WL.val rfl (aop_iaddr_h rfl rfl (by omega) ej) rfl ?_
              refine WL.heap rfl (aop_store_h rfl rfl rfl rfl hF2 (by rw [ew]; exact upd_rep)) rfl ?_
              repeat (first | refine W.seq ?_ | refine W.ops ?_ | refine WL.off rfl rfl ?_ | refine WL.val rfl rfl rfl ?_ | refine WL.nil ?_ | refine W.block ?_ | refine W.outBlock ?_ | refine W.skip ?_ | refine W.exit rfl ?_ | refine WL.box rfl rfl rfl ?_ | refine W.opsD ?_ | refine W.condT rfl ?_ | refine W.condF rfl ?_)
              refine ih (i, kept2, min over (1 + r) :: fs1) _ _ _ ⟨by omega, hcc, ?_, ?_, by omega, ?_, ?_⟩ (by simp only; omega) (by rw [show IntKind.wrap .i64 (((i + 1 : Nat) : Int) - 1 - 1) = ((i : Int) - 1) from by rw [wrap64 (by omega) (by omega)]; omega]; rfl)
              · refine hM2.frame hM.lts (fun j hj => ?_) (hM2.fr.put (by simp; omega) (by omega))
                rw [Heap.get_put, if_neg]
                intro e; rw [e] at hj; simp at hj; omega
              · rw [Heap.get_put, if_pos rfl]; rfl
              · intro j hj hne
                rw [Heap.get_put, if_neg (fun e => by rw [e] at hj; simp at hj; omega)]
                exact hK3 j hj hne
              · intro r hr
                rcases List.mem_cons.1 hr with rfl | hr
                · have h1 := hlo
                  have h2 := hhi
                  unfold over; omega
                · exact hb1 r hr
          · have o4 : l[i].op ≠ 14 := by simpa using ho4
            repeat (first | refine W.seq ?_ | refine W.ops ?_ | refine WL.off rfl rfl ?_ | refine WL.val rfl rfl rfl ?_ | refine WL.nil ?_ | refine W.block ?_ | refine W.outBlock ?_ | refine W.skip ?_ | refine W.exit rfl ?_ | refine WL.box rfl rfl rfl ?_ | refine W.opsD ?_ | refine W.condT rfl ?_ | refine W.condF rfl ?_)
            refine W.cond rfl (fun ho5 => ?_) (fun ho5 => ?_)
            · have o5 : l[i].op = 12 := by simpa using ho5
              repeat (first | refine W.seq ?_ | refine W.ops ?_ | refine WL.off rfl rfl ?_ | refine WL.val rfl rfl rfl ?_ | refine WL.nil ?_ | refine W.block ?_ | refine W.outBlock ?_ | refine W.skip ?_ | refine W.exit rfl ?_ | refine WL.box rfl rfl rfl ?_ | refine W.opsD ?_ | refine W.condT rfl ?_ | refine W.condF rfl ?_)
              refine WL.val rfl (aop_move_nj rfl hv.nj) rfl ?_
              repeat (first | refine W.seq ?_ | refine W.ops ?_ | refine WL.off rfl rfl ?_ | refine WL.val rfl rfl rfl ?_ | refine WL.nil ?_ | refine W.block ?_ | refine W.outBlock ?_ | refine W.skip ?_ | refine W.exit rfl ?_ | refine WL.box rfl rfl rfl ?_ | refine W.opsD ?_ | refine W.condT rfl ?_ | refine W.condF rfl ?_)
              refine WL.val rfl (aop_iaddr_sl rfl hv rfl hi ej) rfl ?_
              repeat (first | refine W.seq ?_ | refine W.ops ?_ | refine WL.off rfl rfl ?_ | refine WL.val rfl rfl rfl ?_ | refine WL.nil ?_ | refine W.block ?_ | refine W.outBlock ?_ | refine W.skip ?_ | refine W.exit rfl ?_ | refine WL.box rfl rfl rfl ?_ | refine W.opsD ?_ | refine W.condT rfl ?_ | refine W.condF rfl ?_)
              refine WL.val rfl (aop_load_el (enc := Instr.enc) (o := 6) rfl (fun _ => rfl) hi (by decide) rfl) rfl ?_
              repeat (first | refine W.seq ?_ | refine W.ops ?_ | refine WL.off rfl rfl ?_ | refine WL.val rfl rfl rfl ?_ | refine WL.nil ?_ | refine W.block ?_ | refine W.outBlock ?_ | refine W.skip ?_ | refine W.exit rfl ?_ | refine WL.box rfl rfl rfl ?_ | refine W.opsD ?_ | refine W.condT rfl ?_ | refine W.condF rfl ?_)
              generalize hq : decide (l[i].n ≥ 0) = q
              cases q with
              | false =>
                have hcc : codeF f kept (l.drop i) = some (kept1, min over (1 + fs1.getD 0 0) :: fs1) := by
                  have := of_decide_eq_false hq
                  rw [hdr]; simp only [codeF, hc1]; rw [if_neg hor, if_neg o3, if_neg o4, if_neg (by rintro ⟨_, h, _⟩; omega)]
                have ew : IntKind.wrap .i64 (1 + (fs1.getD 0 0)) = 1 + (fs1.getD 0 0) := wrap64 (by have := hb0.1; omega) (by have := hb0.2; omega)
                repeat (first | refine W.seq ?_ | refine W.ops ?_ | refine WL.off rfl rfl ?_ | refine WL.val rfl rfl rfl ?_ | refine WL.nil ?_ | refine W.block ?_ | refine W.outBlock ?_ | refine W.skip ?_ | refine W.exit rfl ?_ | refine WL.box rfl rfl rfl ?_ | refine W.opsD ?_ | refine W.condT rfl ?_ | refine W.condF rfl ?_)
                refine WL.val rfl (aop_iaddr_h rfl rfl (by omega) ej) rfl ?_
                refine WL.heap rfl (aop_store_h rfl rfl rfl rfl hF (by rw [ew]; exact upd_rep)) rfl ?_
                repeat (first | refine W.seq ?_ | refine W.ops ?_ | refine WL.off rfl rfl ?_ | refine WL.val rfl rfl rfl ?_ | refine WL.nil ?_ | refine W.block ?_ | refine W.outBlock ?_ | refine W.skip ?_ | refine W.exit rfl ?_ | refine WL.box rfl rfl rfl ?_ | refine W.opsD ?_ | refine W.condT rfl ?_ | refine W.condF rfl ?_)
                refine ih (i, kept1, min over (1 + (fs1.getD 0 0)) :: fs1) _ _ _ ⟨by omega, hcc, ?_, ?_, by omega, ?_, ?_⟩ (by simp only; omega) (by rw [show IntKind.wrap .i64 (((i + 1 : Nat) : Int) - 1 - 1) = ((i : Int) - 1) from by rw [wrap64 (by omega) (by omega)]; omega]; rfl)
                · refine hM1.frame hM.lts (fun j hj => ?_) (hM1.fr.put (by simp; omega) (by omega))
                  rw [Heap.get_put, if_neg]
                  intro e; rw [e] at hj; simp at hj; omega
                · rw [Heap.get_put, if_pos rfl]; rfl
                · intro j hj hne
                  rw [Heap.get_put, if_neg (fun e => by rw [e] at hj; simp at hj; omega)]
                  exact hK j hj hne
                · intro r hr
                  rcases List.mem_cons.1 hr with rfl | hr
                  · have h1 := hb0.1
                    have h2 := hb0.2
                    unfold over; omega
                  · exact hb1 r hr
              | true =>
                have hq0 : 0 ≤ l[i].n := of_decide_eq_true hq
                repeat (first | refine W.seq ?_ | refine W.ops ?_ | refine WL.off rfl rfl ?_ | refine WL.val rfl rfl rfl ?_ | refine WL.nil ?_ | refine W.block ?_ | refine W.outBlock ?_ | refine W.skip ?_ | refine W.exit rfl ?_ | refine WL.box rfl rfl rfl ?_ | refine W.opsD ?_ | refine W.condT rfl ?_ | refine W.condF rfl ?_)
                refine WL.val rfl (aop_move_nj rfl hv.nj) rfl ?_
                refine WL.val rfl (aop_len_sl rfl hv) rfl ?_
                repeat (first | refine W.seq ?_ | refine W.ops ?_ | refine WL.off rfl rfl ?_ | refine WL.val rfl rfl rfl ?_ | refine WL.nil ?_ | refine W.block ?_ | refine W.outBlock ?_ | refine W.skip ?_ | refine W.exit rfl ?_ | refine WL.box rfl rfl rfl ?_ | refine W.opsD ?_ | refine W.condT rfl ?_ | refine W.condF rfl ?_)
                have ew : IntKind.wrap .i64 (IntKind.wrap .i64 ((l.length : Int) - 1) - (((i + 1 : Nat) : Int) - 1)) = (l.length : Int) - 1 - i := by
                  rw [wrap64 (n := (l.length : Int) - 1) (by omega) (by omega), wrap64 (by omega) (by omega)]; omega
                refine W.cond rfl (fun ho6 => ?_) (fun ho6 => ?_)
                · have hsk := of_decide_eq_true ho6
                  dsimp only at hsk
                  rw [ew] at hsk
                  obtain ⟨k, hk⟩ : ∃ k : Nat, l[i].n = k := ⟨l[i].n.toNat, by omega⟩
                  have hkl : i + 1 + k < l.length + 1 := by omega
                  have hcell2 : (List.replicate (i + 1) (AV.int .i64 0) ++ fs1.map fun r => AV.int .i64 r)[0 + (i + 1 + k) * 1]? = some (.int .i64 (fs1.getD k 0)) := by
                    rw [List.getElem?_append_right (by rw [List.length_replicate]; omega)]
                    have : 0 + (i + 1 + k) * 1 - (List.replicate (i + 1) (AV.int .i64 0)).length = k := by simp
                    rw [this, List.getElem?_map, List.getElem?_eq_getElem (by omega)]
                    simp [List.getD, List.getElem?_eq_getElem (show k < fs1.length by omega)]
                  have hbk : 0 ≤ fs1.getD k 0 ∧ fs1.getD k 0 ≤ 65537 := by
                    have : fs1.getD k 0 = fs1[k]'(by omega) := by simp [List.getD, List.getElem?_eq_getElem (show k < fs1.length by omega)]
                    rw [this]; exact hb1 _ (List.getElem_mem _)
                  have hcc : codeF f kept (l.drop i) = some (kept1, min over (1 + max (fs1.getD 0 0) (fs1.getD k 0)) :: fs1) := by
                    rw [hdr]; simp only [codeF, hc1]
                    rw [if_neg hor, if_neg o3, if_neg o4, if_pos ⟨o5, hq0, by rw [List.length_drop]; omega⟩, hk]; rfl
                  have ez : IntKind.wrap .i64 (IntKind.wrap .i64 (((i + 1 : Nat) : Int) - 1 + 1) + l[i].n) = ((i + 1 + k : Nat) : Int) := by
                    rw [ei, hk, wrap64 (by omega) (by omega)]; first | done | omega
                  repeat (first | refine W.seq ?_ | refine W.ops ?_ | refine WL.off rfl rfl ?_ | refine WL.val rfl rfl rfl ?_ | refine WL.nil ?_ | refine W.block ?_ | refine W.outBlock ?_ | refine W.skip ?_ | refine W.exit rfl ?_ | refine WL.box rfl rfl rfl ?_ | refine W.opsD ?_ | refine W.condT rfl ?_ | refine W.condF rfl ?_)
                  refine WL.val rfl (aop_iaddr_h rfl rfl hkl ez) rfl ?_
                  refine WL.val rfl (aop_load_h rfl hF hcell2) rfl ?_
                  have hlo : 0 ≤ max (fs1.getD 0 0) (fs1.getD k 0) := by omega
                  have hhi : max (fs1.getD 0 0) (fs1.getD k 0) ≤ 65537 := by omega
                  have ew : IntKind.wrap .i64 (1 + (max (fs1.getD 0 0) (fs1.getD k 0))) = 1 + (max (fs1.getD 0 0) (fs1.getD k 0)) := wrap64 (by have := hlo; omega) (by have := hhi; omega)
                  repeat (first | refine W.seq ?_ | refine W.ops ?_ | refine WL.off rfl rfl ?_ | refine WL.val rfl rfl rfl ?_ | refine WL.nil ?_ | refine W.block ?_ | refine W.outBlock ?_ | refine W.skip ?_ | refine W.exit rfl ?_ | refine WL.box rfl rfl rfl ?_ | refine W.opsD ?_ | refine W.condT rfl ?_ | refine W.condF rfl ?_)
                  refine WL.val rfl (aop_iaddr_h rfl rfl (by omega) ej) rfl ?_
                  refine WL.heap rfl (aop_store_h rfl rfl rfl rfl hF (by rw [ew]; exact upd_rep)) rfl ?_
                  repeat (first | refine W.seq ?_ | refine W.ops ?_ | refine WL.off rfl rfl ?_ | refine WL.val rfl rfl rfl ?_ | refine WL.nil ?_ | refine W.block ?_ | refine W.outBlock ?_ | refine W.skip ?_ | refine W.exit rfl ?_ | refine WL.box rfl rfl rfl ?_ | refine W.opsD ?_ | refine W.condT rfl ?_ | refine W.condF rfl ?_)
                  refine ih (i, kept1, min over (1 + (max (fs1.getD 0 0) (fs1.getD k 0))) :: fs1) _ _ _ ⟨by omega, hcc, ?_, ?_, by omega, ?_, ?_⟩ (by simp only; omega) (by rw [show IntKind.wrap .i64 (((i + 1 : Nat) : Int) - 1 - 1) = ((i : Int) - 1) from by rw [wrap64 (by omega) (by omega)]; omega]; rfl)
                  · refine hM1.frame hM.lts (fun j hj => ?_) (hM1.fr.put (by simp; omega) (by omega))
                    rw [Heap.get_put, if_neg]
                    intro e; rw [e] at hj; simp at hj; omega
                  · rw [Heap.get_put, if_pos rfl]; rfl
                  · intro j hj hne
                    rw [Heap.get_put, if_neg (fun e => by rw [e] at hj; simp at hj; omega)]
                    exact hK j hj hne
                  · intro r hr
                    rcases List.mem_cons.1 hr with rfl | hr
                    · have h1 := hlo
                      have h2 := hhi
                      unfold over; omega
                    · exact hb1 r hr
                · have hsk := of_decide_eq_false ho6
                  dsimp only at hsk
                  rw [ew] at hsk
                  have hcc : codeF f kept (l.drop i) = some (kept1, min over (1 + fs1.getD 0 0) :: fs1) := by
                    rw [hdr]; simp only [codeF, hc1]; rw [if_neg hor, if_neg o3, if_neg o4, if_neg (by rintro ⟨_, _, h⟩; rw [List.length_drop] at h; omega)]
                  have ew : IntKind.wrap .i64 (1 + (fs1.getD 0 0)) = 1 + (fs1.getD 0 0) := wrap64 (by have := hb0.1; omega) (by have := hb0.2; omega)
                  repeat (first | refine W.seq ?_ | refine W.ops ?_ | refine WL.off rfl rfl ?_ | refine WL.val rfl rfl rfl ?_ | refine WL.nil ?_ | refine W.block ?_ | refine W.outBlock ?_ | refine W.skip ?_ | refine W.exit rfl ?_ | refine WL.box rfl rfl rfl ?_ | refine W.opsD ?_ | refine W.condT rfl ?_ | refine W.condF rfl ?_)
                  refine WL.val rfl (aop_iaddr_h rfl rfl (by omega) ej) rfl ?_
                  refine WL.heap rfl (aop_store_h rfl rfl rfl rfl hF (by rw [ew]; exact upd_rep)) rfl ?_
                  repeat (first | refine W.seq ?_ | refine W.ops ?_ | refine WL.off rfl rfl ?_ | refine WL.val rfl rfl rfl ?_ | refine WL.nil ?_ | refine W.block ?_ | refine W.outBlock ?_ | refine W.skip ?_ | refine W.exit rfl ?_ | refine WL.box rfl rfl rfl ?_ | refine W.opsD ?_ | refine W.condT rfl ?_ | refine W.condF rfl ?_)
                  refine ih (i, kept1, min over (1 + (fs1.getD 0 0)) :: fs1) _ _ _ ⟨by omega, hcc, ?_, ?_, by omega, ?_, ?_⟩ (by simp only; omega) (by rw [show IntKind.wrap .i64 (((i + 1 : Nat) : Int) - 1 - 1) = ((i : Int) - 1) from by rw [wrap64 (by omega) (by omega)]; omega]; rfl)
                  · refine hM1.frame hM.lts (fun j hj => ?_) (hM1.fr.put (by simp; omega) (by omega))
                    rw [Heap.get_put, if_neg]
                    intro e; rw [e] at hj; simp at hj; omega
                  · rw [Heap.get_put, if_pos rfl]; rfl
                  · intro j hj hne
                    rw [Heap.get_put, if_neg (fun e => by rw [e] at hj; simp at hj; omega)]
                    exact hK j hj hne
                  · intro r hr
                    rcases List.mem_cons.1 hr with rfl | hr
                    · have h1 := hb0.1
                      have h2 := hb0.2
                      unfold over; omega
                    · exact hb1 r hr
            · have o5 : l[i].op ≠ 12 := by simpa using ho5
              have hcc : codeF f kept (l.drop i) = some (kept1, min over (1 + fs1.getD 0 0) :: fs1) := by
                rw [hdr]; simp only [codeF, hc1, if_neg hor, if_neg o3, if_neg o4]; rw [if_neg (fun e => o5 e.1)]
              repeat (first | refine W.seq ?_ | refine W.ops ?_ | refine WL.off rfl rfl ?_ | refine WL.val rfl rfl rfl ?_ | refine WL.nil ?_ | refine W.block ?_ | refine W.outBlock ?_ | refine W.skip ?_ | refine W.exit rfl ?_ | refine WL.box rfl rfl rfl ?_ | refine W.opsD ?_ | refine W.condT rfl ?_ | refine W.condF rfl ?_)
              have ew : IntKind.wrap .i64 (1 + (fs1.getD 0 0)) = 1 + (fs1.getD 0 0) := wrap64 (by have := hb0.1; omega) (by have := hb0.2; omega)
              repeat (first | refine W.seq ?_ | refine W.ops ?_ | refine WL.off rfl rfl ?_ | refine WL.val rfl rfl rfl ?_ | refine WL.nil ?_ | refine W.block ?_ | refine W.outBlock ?_ | refine W.skip ?_ | refine W.exit rfl ?_ | refine WL.box rfl rfl rfl ?_ | refine W.opsD ?_ | refine W.condT rfl ?_ | refine W.condF rfl ?_)
              refine WL.val rfl (aop_iaddr_h rfl rfl (by omega) ej) rfl ?_
              refine WL.heap rfl (aop_store_h rfl rfl rfl rfl hF (by rw [ew]; exact upd_rep)) rfl ?_
              repeat (first | refine W.seq ?_ | refine W.ops ?_ | refine WL.off rfl rfl ?_ | refine WL.val rfl rfl rfl ?_ | refine WL.nil ?_ | refine W.block ?_ | refine W.outBlock ?_ | refine W.skip ?_ | refine W.exit rfl ?_ | refine WL.box rfl rfl rfl ?_ | refine W.opsD ?_ | refine W.condT rfl ?_ | refine W.condF rfl ?_)
              refine ih (i, kept1, min over (1 + (fs1.getD 0 0)) :: fs1) _ _ _ ⟨by omega, hcc, ?_, ?_, by omega, ?_, ?_⟩ (by simp only; omega) (by rw [show IntKind.wrap .i64 (((i + 1 : Nat) : Int) - 1 - 1) = ((i : Int) - 1) from by rw [wrap64 (by omega) (by omega)]; omega]; rfl)
              · refine hM1.frame hM.lts (fun j hj => ?_) (hM1.fr.put (by simp; omega) (by omega))
                rw [Heap.get_put, if_neg]
                intro e; rw [e] at hj; simp at hj; omega
              · rw [Heap.get_put, if_pos rfl]; rfl
              · intro j hj hne
                rw [Heap.get_put, if_neg (fun e => by rw [e] at hj; simp at hj; omega)]
                exact hK j hj hne
              · intro r hr
                rcases List.mem_cons.1 hr with rfl | hr
                · have h1 := hb0.1
                  have h2 := hb0.2
                  unfold over; omega
                · exact hb1 r hr
  · have hz : m = 0 := by have := of_decide_eq_false hb2; dsimp only at this; omega
    subst hz
    rw [List.drop_zero] at hc1
    rw [hc1] at hc
    simp only [Option.some.injEq, Prod.mk.injEq] at hc
    obtain ⟨rfl, rfl⟩ := hc
    have hfl := codeF_len hc1
    have hcell : (List.replicate 0 (AV.int .i64 0) ++ fs1.map fun r => AV.int .i64 r)[0 + 0 * 1]? = some (.int .i64 (fs1.getD 0 0)) := by
      cases fs1 with
      | nil => simp at hfl
      | cons x r => simp
    repeat (first | refine W.seq ?_ | refine W.ops ?_ | refine WL.off rfl rfl ?_ | refine WL.val rfl rfl rfl ?_ | refine WL.nil ?_ | refine W.block ?_ | refine W.outBlock ?_ | refine W.skip ?_ | refine W.exit rfl ?_ | refine WL.box rfl rfl rfl ?_ | refine W.opsD ?_ | refine W.condT rfl ?_ | refine W.condF rfl ?_)
    refine WL.val rfl (aop_iaddr_h rfl rfl (Nat.succ_pos _) rfl) rfl ?_
    refine WL.val rfl (aop_load_h rfl hF hcell) rfl ?_
    repeat (first | refine W.seq ?_ | refine W.ops ?_ | refine WL.off rfl rfl ?_ | refine WL.val rfl rfl rfl ?_ | refine WL.nil ?_ | refine W.block ?_ | refine W.outBlock ?_ | refine W.skip ?_ | refine W.exit rfl ?_ | refine WL.box rfl rfl rfl ?_ | refine W.opsD ?_ | refine W.condT rfl ?_ | refine W.condF rfl ?_)
    refine W.ret ⟨_, rfl, rfl, hM1.mono (by dsimp only; omega), by dsimp only; omega, hK, ?_⟩
    cases fs1 with
    | nil => simp at hfl
    | cons x r => exact hb1 x (by simp)
end
end Go.AM.B

/- Package bound: the most steps, of any object. -/
namespace Go.AM.B
open Go.Proofs.Ytebogdeaiecldaa.Tab
noncomputable section
set_option linter.unusedVariables false
set_option maxHeartbeats 4000000

theorem MH.put {a : AV} {oKp oS oSt oC oK : AM.Id} {h : Heap} {n m : Nat} {kept : Mem} (H : MH a oKp oS oSt oC oK h n kept) {ob : AObj} {x : Th} {r : Int} (hm : n ≤ m) (hob : ∀ H' : Heap, H'.get oK = some ob → MapN AM.kp H' oK (mput kept x r)) (hr : 0 ≤ r ∧ r ≤ 65537) :
    MH a oKp oS oSt oC oK (h.put oK ob) m (mput kept x r) where
  kp := by rw [Heap.get_put, if_neg H.n1]; exact H.kp
  s := by rw [Heap.get_put, if_neg H.n2]; exact H.s
  st := by rw [Heap.get_put, if_neg H.n3]; exact H.st
  c := by rw [Heap.get_put, if_neg H.n4]; exact H.c
  m := hob (h.put oK ob) (by rw [Heap.get_put, if_pos rfl])
  fr := H.fr.put (Nat.lt_of_lt_of_le H.lts.2.2.2.2 hm) hm
  n1 := H.n1
  n2 := H.n2
  n3 := H.n3
  n4 := H.n4
  bnd := by
    intro p hp
    unfold mput at hp
    split at hp
    · rcases List.mem_or_eq_of_mem_set hp with h1 | h1
      · exact H.bnd p h1
      · rw [h1]; exact hr
    · rcases List.mem_append.1 hp with h1 | h1
      · exact H.bnd p h1
      · simp only [List.mem_singleton] at h1; rw [h1]; exact hr
theorem mget_bnd {kept : Mem} (hb : ∀ p ∈ kept, 0 ≤ p.2 ∧ p.2 ≤ 65537) {x : Th} {n : Int} (h : mget kept x = some n) : 0 ≤ n ∧ n ≤ 65537 := by
  unfold mget at h
  cases hf : kept.find? (fun p => p.1 == x) with
  | none => rw [hf] at h; cases h
  | some p =>
    rw [hf] at h
    simp only [Option.map_some, Option.some.injEq] at h
    rw [← h]
    exact hb p (List.mem_of_find?_eq_some hf)
theorem mput_cons {κ : Type} [BEq κ] (p : κ × Int) (st : List (κ × Int)) (x : κ) (v : Int) : mput (p :: st) x v = if p.1 == x then (x, v) :: st else p :: mput st x v := by
  unfold mput
  rw [List.findIdx?_cons]
  cases h : p.1 == x
  · simp only [Bool.false_eq_true, if_false]
    cases st.findIdx? (fun p => p.1 == x) <;> rfl
  · simp
theorem mget_mput {κ : Type} [BEq κ] [LawfulBEq κ] (st : List (κ × Int)) (x y : κ) (v : Int) : mget (mput st x v) y = if x == y then some v else mget st y := by
  induction st with
  | nil => simp only [mput, mget, List.findIdx?_nil, List.nil_append, List.find?_cons, List.find?_nil]; cases h : x == y <;> simp
  | cons p st ih =>
    rw [mput_cons]
    unfold mget at ih ⊢
    by_cases h : p.1 = x
    · subst h
      simp only [beq_self_eq_true, if_true, List.find?_cons]
      cases h : p.1 == y <;> simp
    · have h1 : (p.1 == x) = false := by simpa using h
      simp only [h1, Bool.false_eq_true, if_false, List.find?_cons]
      by_cases h2 : p.1 = y
      · have : (x == y) = false := by simp; intro e; exact h (h2.trans e.symm)
        simp [h2, this]
      · have h3 : (p.1 == y) = false := by simpa using h2
        simp only [h3, ih]

theorem evAs_nj {E : Env} {t : Nat} {v : AV} (h : E.get t = some (.v v)) (hv : v ≠ .junk) : evAs E [.tmp t] = some [v] := by simp only [evAs, evA_nj h hv]
theorem steps_c (s : Solv) (a : AV) (hs : IsSolv s a) (oKp oS oSt oC oK : AM.Id) : ∀ k, StepsOk s a oKp oS oSt oC oK (stepsF s k) := by
  obtain ⟨⟨sm1, sm2, sm3, sm4⟩, tv, bv, al, rfl, htv, hbv, hal⟩ := hs
  intro k
  induction k with
  | zero => intro kept x kept' r h n hd; cases hd
  | succ k IH =>
    intro kept x kept' r h n hd hM
    obtain ⟨kd, id⟩ := x
    simp only [stepsF] at hd
    refine CallsTo.of (vf := v57) rfl rfl ?_
    unfold v57
    repeat (first | refine W.seq ?_ | refine W.ops ?_ | refine WL.off rfl rfl ?_ | refine WL.val rfl rfl rfl ?_ | refine WL.nil ?_ | refine W.block ?_ | refine W.outBlock ?_ | refine W.skip ?_ | refine W.exit rfl ?_ | refine WL.box rfl rfl rfl ?_ | refine W.opsD ?_ | refine W.condT rfl ?_ | refine W.condF rfl ?_)
    refine WL.val rfl (aop_load_h rfl hM.kp rfl) rfl ?_
    repeat (first | refine W.seq ?_ | refine W.ops ?_ | refine WL.off rfl rfl ?_ | refine WL.val rfl rfl rfl ?_ | refine WL.nil ?_ | refine W.block ?_ | refine W.outBlock ?_ | refine W.skip ?_ | refine W.exit rfl ?_ | refine WL.box rfl rfl rfl ?_ | refine W.opsD ?_ | refine W.condT rfl ?_ | refine W.condF rfl ?_)
    refine WL.lookN (key := AM.kp) (n := (kd, id)) (mapIx_pair (fun p => p.1) (kd, id) kept) rfl rfl rfl hM.m rfl ?_
    cases hmg : mget kept (kd, id) with
    | some n1 =>
      rw [hmg] at hd
      simp only [Option.some.injEq, Prod.mk.injEq] at hd
      obtain ⟨rfl, rfl⟩ := hd
      repeat (first | refine W.seq ?_ | refine W.ops ?_ | refine WL.off rfl rfl ?_ | refine WL.val rfl rfl rfl ?_ | refine WL.nil ?_ | refine W.block ?_ | refine W.outBlock ?_ | refine W.skip ?_ | refine W.exit rfl ?_ | refine WL.box rfl rfl rfl ?_ | refine W.opsD ?_ | refine W.condT rfl ?_ | refine W.condF rfl ?_)
      exact W.ret ⟨_, rfl, rfl, hM.mono (by dsimp only; omega), by dsimp only; omega, fun _ _ _ => rfl, mget_bnd hM.bnd hmg⟩
    | none =>
      rw [hmg] at hd
      repeat (first | refine W.seq ?_ | refine W.ops ?_ | refine WL.off rfl rfl ?_ | refine WL.val rfl rfl rfl ?_ | refine WL.nil ?_ | refine W.block ?_ | refine W.outBlock ?_ | refine W.skip ?_ | refine W.exit rfl ?_ | refine WL.box rfl rfl rfl ?_ | refine W.opsD ?_ | refine W.condT rfl ?_ | refine W.condF rfl ?_)
      simp only at hd
      refine W.cond rfl (fun hk0 => ?_) (fun hk0 => ?_)
      · have e0 : kd = 0 := by simpa using hk0
        rw [if_pos e0] at hd
        repeat (first | refine W.seq ?_ | refine W.ops ?_ | refine WL.off rfl rfl ?_ | refine WL.val rfl rfl rfl ?_ | refine WL.nil ?_ | refine W.block ?_ | refine W.outBlock ?_ | refine W.skip ?_ | refine W.exit rfl ?_ | refine WL.box rfl rfl rfl ?_ | refine W.opsD ?_ | refine W.condT rfl ?_ | refine W.condF rfl ?_)
        refine WL.val rfl (aop_load_h rfl hM.s rfl) rfl ?_
        repeat (first | refine W.seq ?_ | refine W.ops ?_ | refine WL.off rfl rfl ?_ | refine WL.val rfl rfl rfl ?_ | refine WL.nil ?_ | refine W.block ?_ | refine W.outBlock ?_ | refine W.skip ?_ | refine W.exit rfl ?_ | refine WL.box rfl rfl rfl ?_ | refine W.opsD ?_ | refine W.condT rfl ?_ | refine W.condF rfl ?_)
        refine WL.lookup_sl rfl rfl rfl htv rfl (fun v hR => ?_)
        dsimp only at hR
        have hlen := lookL_le sm1 (by decide) id
        generalize (List.find? (fun t => t.1 == id) s.tables).isSome = is at *
        generalize lookL s.tables id = L at *
        repeat (first | refine W.seq ?_ | refine W.ops ?_ | refine WL.off rfl rfl ?_ | refine WL.val rfl rfl rfl ?_ | refine WL.nil ?_ | refine W.block ?_ | refine W.outBlock ?_ | refine W.skip ?_ | refine W.exit rfl ?_ | refine WL.box rfl rfl rfl ?_ | refine W.opsD ?_ | refine W.condT rfl ?_ | refine W.condF rfl ?_)
        refine WL.val rfl (aop_move_nj rfl hR.nj) rfl ?_
        repeat (first | refine W.seq ?_ | refine W.ops ?_ | refine WL.off rfl rfl ?_ | refine WL.val rfl rfl rfl ?_ | refine WL.nil ?_ | refine W.block ?_ | refine W.outBlock ?_ | refine W.skip ?_ | refine W.exit rfl ?_ | refine WL.box rfl rfl rfl ?_ | refine W.opsD ?_ | refine W.condT rfl ?_ | refine W.condF rfl ?_)
        refine WL.val rfl (aop_move_nj rfl hR.nj) rfl ?_
        refine WL.val rfl (aop_len_sl rfl hR) rfl ?_
        repeat (first | refine W.seq ?_ | refine W.ops ?_ | refine WL.off rfl rfl ?_ | refine WL.val rfl rfl rfl ?_ | refine WL.nil ?_ | refine W.block ?_ | refine W.outBlock ?_ | refine W.skip ?_ | refine W.exit rfl ?_ | refine WL.box rfl rfl rfl ?_ | refine W.opsD ?_ | refine W.condT rfl ?_ | refine W.condF rfl ?_)
        cases hfo : foldN (stepsF s k) max kept 0 (L.map fun b => (1, b)) with
        | none => rw [hfo] at hd; cases hd
        | some p =>
        obtain ⟨kf, nf⟩ := p
        rw [hfo] at hd
        simp only [Option.some.injEq, Prod.mk.injEq] at hd
        obtain ⟨rfl, rfl⟩ := hd
        refine W.loopE (E0 := envOf [(1, _), (3, _), (5, _), (9, _), (11, _), (70, _), (71, _), (72, _)]) rfl (β := Nat × Mem × Int) (fun b => [(9, .v (.int .i64 b.2.2)), (72, .v (.int .i64 b.1))])
          (fun b h1 n1 => b.1 ≤ L.length ∧ MH _ oKp oS oSt oC oK h1 n1 b.2.1 ∧ (0 ≤ b.2.2 ∧ b.2.2 ≤ 65537) ∧ foldN (stepsF s k) max b.2.1 b.2.2 ((L.drop b.1).map fun b => (1, b)) = some (kf, nf) ∧ n ≤ n1 ∧ Keeps n oK h h1)
          (fun b => L.length - b.1) (0, kept, 0) rfl ⟨by simp, hM.mono (by omega), ⟨Int.le_refl 0, by dsimp only; omega⟩, hfo, by omega, fun _ _ _ => rfl⟩ ?_
        rintro ⟨i, kept1, n2⟩ h1 n1 ⟨hi, hM1, hb1, hfo1, hn1, hK⟩ ih
        dsimp only at hi hM1 hb1 hfo1 hn1 hK
        repeat (first | refine W.seq ?_ | refine W.ops ?_ | refine WL.off rfl rfl ?_ | refine WL.val rfl rfl rfl ?_ | refine WL.nil ?_ | refine W.block ?_ | refine W.outBlock ?_ | refine W.skip ?_ | refine W.exit rfl ?_ | refine WL.box rfl rfl rfl ?_ | refine W.opsD ?_ | refine W.condT rfl ?_ | refine W.condF rfl ?_)
        refine W.cond rfl (fun hb2 => ?_) (fun hb2 => ?_)
        · have hlt : i < L.length := by simpa using hb2
          rw [drop_cons hlt, List.map_cons] at hfo1
          simp only [foldN] at hfo1
          repeat (first | refine W.seq ?_ | refine W.ops ?_ | refine WL.off rfl rfl ?_ | refine WL.val rfl rfl rfl ?_ | refine WL.nil ?_ | refine W.block ?_ | refine W.outBlock ?_ | refine W.skip ?_ | refine W.exit rfl ?_ | refine WL.box rfl rfl rfl ?_ | refine W.opsD ?_ | refine W.condT rfl ?_ | refine W.condF rfl ?_)
          refine WL.val rfl (aop_iaddr_sl rfl hR rfl hlt) rfl ?_
          refine WL.val rfl (aop_load_el (enc := encI) (o := 0) rfl (fun _ => rfl) hlt (by decide) rfl) rfl ?_
          repeat (first | refine W.seq ?_ | refine W.ops ?_ | refine WL.off rfl rfl ?_ | refine WL.val rfl rfl rfl ?_ | refine WL.nil ?_ | refine W.block ?_ | refine W.outBlock ?_ | refine W.skip ?_ | refine W.exit rfl ?_ | refine WL.box rfl rfl rfl ?_ | refine W.opsD ?_ | refine W.condT rfl ?_ | refine W.condF rfl ?_)
          refine WL.val rfl (aop_load_h rfl hM1.st rfl) rfl ?_
          repeat (first | refine W.seq ?_ | refine W.ops ?_ | refine WL.off rfl rfl ?_ | refine WL.val rfl rfl rfl ?_ | refine WL.nil ?_ | refine W.block ?_ | refine W.outBlock ?_ | refine W.skip ?_ | refine W.exit rfl ?_ | refine WL.box rfl rfl rfl ?_ | refine W.opsD ?_ | refine W.condT rfl ?_ | refine W.condF rfl ?_)
          cases hr : stepsF s k kept1 (1, L[i]) with
          | none => rw [hr] at hfo1; cases hfo1
          | some p =>
          obtain ⟨kept2, r2⟩ := p
          rw [hr] at hfo1
          refine WL.effv rfl rfl rfl rfl ((IH kept1 (1, L[i]) kept2 r2 _ _ hr (hM1.mono (by omega))).mono ?_)
          rintro u h2 n3 ⟨rfl, hM2, hn2, hK2, hlo, hhi⟩
          repeat (first | refine W.seq ?_ | refine W.ops ?_ | refine WL.off rfl rfl ?_ | refine WL.val rfl rfl rfl ?_ | refine WL.nil ?_ | refine W.block ?_ | refine W.outBlock ?_ | refine W.skip ?_ | refine W.exit rfl ?_ | refine WL.box rfl rfl rfl ?_ | refine W.opsD ?_ | refine W.condT rfl ?_ | refine W.condF rfl ?_)
          exact ih (i + 1, kept2, max n2 r2) _ _ _ ⟨hlt, hM2.mono (by omega), by dsimp only; omega, hfo1, by omega, fun j g1 g2 => (hK2 j (by omega) g2).trans (hK j g1 g2)⟩ (by simp only; omega) (by rw [← wrap64_nat (k := i) (by omega)]; rfl)
        · have hge : i = L.length := by simp at hb2; omega
          subst hge
          rw [List.drop_length] at hfo1
          simp only [List.map_nil, foldN, Option.some.injEq, Prod.mk.injEq] at hfo1
          obtain ⟨rfl, rfl⟩ := hfo1
          repeat (first | refine W.seq ?_ | refine W.ops ?_ | refine WL.off rfl rfl ?_ | refine WL.val rfl rfl rfl ?_ | refine WL.nil ?_ | refine W.block ?_ | refine W.outBlock ?_ | refine W.skip ?_ | refine W.exit rfl ?_ | refine WL.box rfl rfl rfl ?_ | refine W.opsD ?_ | refine W.condT rfl ?_ | refine W.condF rfl ?_)
          cases is with
          | false =>
            repeat (first | refine W.seq ?_ | refine W.ops ?_ | refine WL.off rfl rfl ?_ | refine WL.val rfl rfl rfl ?_ | refine WL.nil ?_ | refine W.block ?_ | refine W.outBlock ?_ | refine W.skip ?_ | refine W.exit rfl ?_ | refine WL.box rfl rfl rfl ?_ | refine W.opsD ?_ | refine W.condT rfl ?_ | refine W.condF rfl ?_)
            refine WL.val rfl (aop_load_h rfl hM1.kp rfl) rfl ?_
            repeat (first | refine W.seq ?_ | refine W.ops ?_ | refine WL.off rfl rfl ?_ | refine WL.val rfl rfl rfl ?_ | refine WL.nil ?_ | refine W.block ?_ | refine W.outBlock ?_ | refine W.skip ?_ | refine W.exit rfl ?_ | refine WL.box rfl rfl rfl ?_ | refine W.opsD ?_ | refine W.condT rfl ?_ | refine W.condF rfl ?_)
            refine WL.mapupN (key := AM.kp) (n := (kd, id)) (mapIx_pair (fun p => p.1) (kd, id) kept1) rfl rfl rfl rfl hM1.m rfl (fun ob hob => ?_)
            have hM9 := hM1.put (Nat.le_refl _) hob (by have := hb1; first | omega | (dsimp only; omega))
            repeat (first | refine W.seq ?_ | refine W.ops ?_ | refine WL.off rfl rfl ?_ | refine WL.val rfl rfl rfl ?_ | refine WL.nil ?_ | refine W.block ?_ | refine W.outBlock ?_ | refine W.skip ?_ | refine W.exit rfl ?_ | refine WL.box rfl rfl rfl ?_ | refine W.opsD ?_ | refine W.condT rfl ?_ | refine W.condF rfl ?_)
            refine WL.val rfl (aop_load_h rfl hM9.kp rfl) rfl ?_
            repeat (first | refine W.seq ?_ | refine W.ops ?_ | refine WL.off rfl rfl ?_ | refine WL.val rfl rfl rfl ?_ | refine WL.nil ?_ | refine W.block ?_ | refine W.outBlock ?_ | refine W.skip ?_ | refine W.exit rfl ?_ | refine WL.box rfl rfl rfl ?_ | refine W.opsD ?_ | refine W.condT rfl ?_ | refine W.condF rfl ?_)
            refine WL.lookN (key := AM.kp) (n := (kd, id)) (mapIx_pair (fun p : Th × Int => p.1) (kd, id) (mput kept1 (kd, id) _)) rfl rfl rfl hM9.m rfl ?_
            rw [mget_mput, if_pos (beq_self_eq_true _)]
            repeat (first | refine W.seq ?_ | refine W.ops ?_ | refine WL.off rfl rfl ?_ | refine WL.val rfl rfl rfl ?_ | refine WL.nil ?_ | refine W.block ?_ | refine W.outBlock ?_ | refine W.skip ?_ | refine W.exit rfl ?_ | refine WL.box rfl rfl rfl ?_ | refine W.opsD ?_ | refine W.condT rfl ?_ | refine W.condF rfl ?_)
            have hne : ∀ j, j.1 < n → j ≠ oK → (h1.put oK ob).get j = h.get j := fun j h1 h2 => by rw [Heap.get_put, if_neg h2]; exact hK j h1 h2
            exact W.ret ⟨_, rfl, rfl, hM9.mono (by have := hn1; dsimp only; omega), by have := hn1; dsimp only; omega, hne, by have := hb1; dsimp only [over]; omega⟩
          | true =>
            have ew : IntKind.wrap .i64 (n2 + 1) = n2 + 1 := wrap64 (by omega) (by omega)
            repeat (first | refine W.seq ?_ | refine W.ops ?_ | refine WL.off rfl rfl ?_ | refine WL.val rfl rfl rfl ?_ | refine WL.nil ?_ | refine W.block ?_ | refine W.outBlock ?_ | refine W.skip ?_ | refine W.exit rfl ?_ | refine WL.box rfl rfl rfl ?_ | refine W.opsD ?_ | refine W.condT rfl ?_ | refine W.condF rfl ?_)
            rw [ew]
            refine WL.val rfl (aop_load_h rfl hM1.kp rfl) rfl ?_
            repeat (first | refine W.seq ?_ | refine W.ops ?_ | refine WL.off rfl rfl ?_ | refine WL.val rfl rfl rfl ?_ | refine WL.nil ?_ | refine W.block ?_ | refine W.outBlock ?_ | refine W.skip ?_ | refine W.exit rfl ?_ | refine WL.box rfl rfl rfl ?_ | refine W.opsD ?_ | refine W.condT rfl ?_ | refine W.condF rfl ?_)
            refine WL.mapupN (key := AM.kp) (n := (kd, id)) (mapIx_pair (fun p => p.1) (kd, id) kept1) rfl rfl rfl rfl hM1.m rfl (fun ob hob => ?_)
            have hM9 := hM1.put (Nat.le_refl _) hob (by have := hb1; first | omega | (dsimp only; omega))
            repeat (first | refine W.seq ?_ | refine W.ops ?_ | refine WL.off rfl rfl ?_ | refine WL.val rfl rfl rfl ?_ | refine WL.nil ?_ | refine W.block ?_ | refine W.outBlock ?_ | refine W.skip ?_ | refine W.exit rfl ?_ | refine WL.box rfl rfl rfl ?_ | refine W.opsD ?_ | refine W.condT rfl ?_ | refine W.condF rfl ?_)
            refine WL.val rfl (aop_load_h rfl hM9.kp rfl) rfl ?_
            repeat (first | refine W.seq ?_ | refine W.ops ?_ | refine WL.off rfl rfl ?_ | refine WL.val rfl rfl rfl ?_ | refine WL.nil ?_ | refine W.block ?_ | refine W.outBlock ?_ | refine W.skip ?_ | refine W.exit rfl ?_ | refine WL.box rfl rfl rfl ?_ | refine W.opsD ?_ | refine W.condT rfl ?_ | refine W.condF rfl ?_)
            refine WL.lookN (key := AM.kp) (n := (kd, id)) (mapIx_pair (fun p : Th × Int => p.1) (kd, id) (mput kept1 (kd, id) _)) rfl rfl rfl hM9.m rfl ?_
            rw [mget_mput, if_pos (beq_self_eq_true _)]
            repeat (first | refine W.seq ?_ | refine W.ops ?_ | refine WL.off rfl rfl ?_ | refine WL.val rfl rfl rfl ?_ | refine WL.nil ?_ | refine W.block ?_ | refine W.outBlock ?_ | refine W.skip ?_ | refine W.exit rfl ?_ | refine WL.box rfl rfl rfl ?_ | refine W.opsD ?_ | refine W.condT rfl ?_ | refine W.condF rfl ?_)
            have hne : ∀ j, j.1 < n → j ≠ oK → (h1.put oK ob).get j = h.get j := fun j h1 h2 => by rw [Heap.get_put, if_neg h2]; exact hK j h1 h2
            exact W.ret ⟨_, rfl, rfl, hM9.mono (by have := hn1; dsimp only; omega), by have := hn1; dsimp only; omega, hne, by have := hb1; dsimp only [over]; omega⟩
      · have e0 : kd ≠ 0 := by simpa using hk0
        rw [if_neg e0] at hd
        repeat (first | refine W.seq ?_ | refine W.ops ?_ | refine WL.off rfl rfl ?_ | refine WL.val rfl rfl rfl ?_ | refine WL.nil ?_ | refine W.block ?_ | refine W.outBlock ?_ | refine W.skip ?_ | refine W.exit rfl ?_ | refine WL.box rfl rfl rfl ?_ | refine W.opsD ?_ | refine W.condT rfl ?_ | refine W.condF rfl ?_)
        refine W.cond rfl (fun hk1 => ?_) (fun hk1 => ?_)
        · have e1 : kd = 1 := by simpa using hk1
          rw [if_pos e1] at hd
          repeat (first | refine W.seq ?_ | refine W.ops ?_ | refine WL.off rfl rfl ?_ | refine WL.val rfl rfl rfl ?_ | refine WL.nil ?_ | refine W.block ?_ | refine W.outBlock ?_ | refine W.skip ?_ | refine W.exit rfl ?_ | refine WL.box rfl rfl rfl ?_ | refine W.opsD ?_ | refine W.condT rfl ?_ | refine W.condF rfl ?_)
          refine WL.val rfl (aop_load_h rfl hM.c rfl) rfl ?_
          refine WL.val rfl (aop_load_h rfl hM.s rfl) rfl ?_
          repeat (first | refine W.seq ?_ | refine W.ops ?_ | refine WL.off rfl rfl ?_ | refine WL.val rfl rfl rfl ?_ | refine WL.nil ?_ | refine W.block ?_ | refine W.outBlock ?_ | refine W.skip ?_ | refine W.exit rfl ?_ | refine WL.box rfl rfl rfl ?_ | refine W.opsD ?_ | refine W.condT rfl ?_ | refine W.condF rfl ?_)
          refine WL.lookup_sl rfl rfl rfl hbv rfl (fun v hR => ?_)
          dsimp only at hR
          have hlen := lookL_le sm2 (by decide) id
          generalize lookL s.blocks id = L at *
          cases hfo : codeF (stepsF s k) kept L with
          | none => rw [hfo] at hd; cases hd
          | some p =>
          obtain ⟨kf, fs⟩ := p
          rw [hfo] at hd
          simp only [Option.some.injEq, Prod.mk.injEq] at hd
          obtain ⟨rfl, rfl⟩ := hd
          refine WL.effv rfl (evAs_nj rfl hR.nj) rfl rfl ((code_c s _ oKp oS oSt oC oK _ IH L v hR hlen kept kf fs _ _ hfo (hM.mono (by omega))).mono ?_)
          rintro u h2 n3 ⟨rfl, hM2, hn2, hK2, hlo⟩
          have hn3 : n ≤ n3 := by omega
          have hK3 : Keeps n oK h h2 := fun j g1 g2 => hK2 j (by omega) g2
          repeat (first | refine W.seq ?_ | refine W.ops ?_ | refine WL.off rfl rfl ?_ | refine WL.val rfl rfl rfl ?_ | refine WL.nil ?_ | refine W.block ?_ | refine W.outBlock ?_ | refine W.skip ?_ | refine W.exit rfl ?_ | refine WL.box rfl rfl rfl ?_ | refine W.opsD ?_ | refine W.condT rfl ?_ | refine W.condF rfl ?_)
          refine WL.val rfl (aop_load_h rfl hM2.kp rfl) rfl ?_
          repeat (first | refine W.seq ?_ | refine W.ops ?_ | refine WL.off rfl rfl ?_ | refine WL.val rfl rfl rfl ?_ | refine WL.nil ?_ | refine W.block ?_ | refine W.outBlock ?_ | refine W.skip ?_ | refine W.exit rfl ?_ | refine WL.box rfl rfl rfl ?_ | refine W.opsD ?_ | refine W.condT rfl ?_ | refine W.condF rfl ?_)
          refine WL.mapupN (key := AM.kp) (n := (kd, id)) (mapIx_pair (fun p => p.1) (kd, id) kf) rfl rfl rfl rfl hM2.m rfl (fun ob hob => ?_)
          have hM9 := hM2.put (Nat.le_refl _) hob (by have := hlo; first | omega | (dsimp only; omega))
          repeat (first | refine W.seq ?_ | refine W.ops ?_ | refine WL.off rfl rfl ?_ | refine WL.val rfl rfl rfl ?_ | refine WL.nil ?_ | refine W.block ?_ | refine W.outBlock ?_ | refine W.skip ?_ | refine W.exit rfl ?_ | refine WL.box rfl rfl rfl ?_ | refine W.opsD ?_ | refine W.condT rfl ?_ | refine W.condF rfl ?_)
          refine WL.val rfl (aop_load_h rfl hM9.kp rfl) rfl ?_
          repeat (first | refine W.seq ?_ | refine W.ops ?_ | refine WL.off rfl rfl ?_ | refine WL.val rfl rfl rfl ?_ | refine WL.nil ?_ | refine W.block ?_ | refine W.outBlock ?_ | refine W.skip ?_ | refine W.exit rfl ?_ | refine WL.box rfl rfl rfl ?_ | refine W.opsD ?_ | refine W.condT rfl ?_ | refine W.condF rfl ?_)
          refine WL.lookN (key := AM.kp) (n := (kd, id)) (mapIx_pair (fun p : Th × Int => p.1) (kd, id) (mput kf (kd, id) _)) rfl rfl rfl hM9.m rfl ?_
          rw [mget_mput, if_pos (beq_self_eq_true _)]
          repeat (first | refine W.seq ?_ | refine W.ops ?_ | refine WL.off rfl rfl ?_ | refine WL.val rfl rfl rfl ?_ | refine WL.nil ?_ | refine W.block ?_ | refine W.outBlock ?_ | refine W.skip ?_ | refine W.exit rfl ?_ | refine WL.box rfl rfl rfl ?_ | refine W.opsD ?_ | refine W.condT rfl ?_ | refine W.condF rfl ?_)
          have hne : ∀ j, j.1 < n → j ≠ oK → (h2.put oK ob).get j = h.get j := fun j h1 h2 => by rw [Heap.get_put, if_neg h2]; exact hK3 j h1 h2
          exact W.ret ⟨_, rfl, rfl, hM9.mono (by have := hn3; dsimp only; omega), by have := hn3; dsimp only; omega, hne, by have := hlo; dsimp only [over]; omega⟩
        · have e1 : kd ≠ 1 := by simpa using hk1
          rw [if_neg e1] at hd
          repeat (first | refine W.seq ?_ | refine W.ops ?_ | refine WL.off rfl rfl ?_ | refine WL.val rfl rfl rfl ?_ | refine WL.nil ?_ | refine W.block ?_ | refine W.outBlock ?_ | refine W.skip ?_ | refine W.exit rfl ?_ | refine WL.box rfl rfl rfl ?_ | refine W.opsD ?_ | refine W.condT rfl ?_ | refine W.condF rfl ?_)
          refine WL.val rfl (aop_load_h rfl hM.s rfl) rfl ?_
          repeat (first | refine W.seq ?_ | refine W.ops ?_ | refine WL.off rfl rfl ?_ | refine WL.val rfl rfl rfl ?_ | refine WL.nil ?_ | refine W.block ?_ | refine W.outBlock ?_ | refine W.skip ?_ | refine W.exit rfl ?_ | refine WL.box rfl rfl rfl ?_ | refine W.opsD ?_ | refine W.condT rfl ?_ | refine W.condF rfl ?_)
          refine WL.lookup_grp (s := s) rfl rfl rfl rfl (fun a b v hR => ?_)
          dsimp only at hR
          have hlen := buckets_le sm3 (by decide) id
          generalize kindOf (s.group id) = kind at *
          generalize s.buckets id = L at *
          repeat (first | refine W.seq ?_ | refine W.ops ?_ | refine WL.off rfl rfl ?_ | refine WL.val rfl rfl rfl ?_ | refine WL.nil ?_ | refine W.block ?_ | refine W.outBlock ?_ | refine W.skip ?_ | refine W.exit rfl ?_ | refine WL.box rfl rfl rfl ?_ | refine W.opsD ?_ | refine W.condT rfl ?_ | refine W.condF rfl ?_)
          refine WL.box rfl (aop_store_l rfl rfl rfl (by simp only [cellsOf, ones, hR.one]; rfl) rfl rfl) rfl ?_
          repeat (first | refine W.seq ?_ | refine W.ops ?_ | refine WL.off rfl rfl ?_ | refine WL.val rfl rfl rfl ?_ | refine WL.nil ?_ | refine W.block ?_ | refine W.outBlock ?_ | refine W.skip ?_ | refine W.exit rfl ?_ | refine WL.box rfl rfl rfl ?_ | refine W.opsD ?_ | refine W.condT rfl ?_ | refine W.condF rfl ?_)
          refine WL.val rfl (aop_len_sl rfl hR) rfl ?_
          repeat (first | refine W.seq ?_ | refine W.ops ?_ | refine WL.off rfl rfl ?_ | refine WL.val rfl rfl rfl ?_ | refine WL.nil ?_ | refine W.block ?_ | refine W.outBlock ?_ | refine W.skip ?_ | refine W.exit rfl ?_ | refine WL.box rfl rfl rfl ?_ | refine W.opsD ?_ | refine W.condT rfl ?_ | refine W.condF rfl ?_)
          cases hfo : foldN (stepsF s k) (fun n r => if kind = 1 then min over (n + r) else max n r) kept 0 (L.map fun b => (1, b.block)) with
          | none => rw [hfo] at hd; cases hd
          | some p =>
          obtain ⟨kf, nf⟩ := p
          rw [hfo] at hd
          simp only [Option.some.injEq, Prod.mk.injEq] at hd
          obtain ⟨rfl, rfl⟩ := hd
          refine W.loopE (E0 := envOf [(1, _), (3, _), (5, _), (9, _), (14, _), (36, _), (37, _), (38, _)]) rfl (β := Nat × Mem × Int) (fun b => [(9, .v (.int .i64 b.2.2)), (38, .v (.int .i64 b.1))])
            (fun b h1 n1 => b.1 ≤ L.length ∧ MH _ oKp oS oSt oC oK h1 n1 b.2.1 ∧ (0 ≤ b.2.2 ∧ b.2.2 ≤ 65537) ∧ foldN (stepsF s k) (fun n r => if kind = 1 then min over (n + r) else max n r) b.2.1 b.2.2 ((L.drop b.1).map fun b => (1, b.block)) = some (kf, nf) ∧ n ≤ n1 ∧ Keeps n oK h h1)
            (fun b => L.length - b.1) (0, kept, 0) rfl ⟨by simp, hM.mono (by omega), ⟨Int.le_refl 0, by dsimp only; omega⟩, hfo, by omega, fun _ _ _ => rfl⟩ ?_
          rintro ⟨i, kept1, n2⟩ h1 n1 ⟨hi, hM1, hb1, hfo1, hn1, hK⟩ ih
          dsimp only at hi hM1 hb1 hfo1 hn1 hK ⊢
          repeat (first | refine W.seq ?_ | refine W.ops ?_ | refine WL.off rfl rfl ?_ | refine WL.val rfl rfl rfl ?_ | refine WL.nil ?_ | refine W.block ?_ | refine W.outBlock ?_ | refine W.skip ?_ | refine W.exit rfl ?_ | refine WL.box rfl rfl rfl ?_ | refine W.opsD ?_ | refine W.condT rfl ?_ | refine W.condF rfl ?_)
          refine W.cond rfl (fun hb2 => ?_) (fun hb2 => ?_)
          · have hlt : i < L.length := by simpa using hb2
            rw [drop_cons hlt, List.map_cons] at hfo1
            simp only [foldN] at hfo1
            repeat (first | refine W.seq ?_ | refine W.ops ?_ | refine WL.off rfl rfl ?_ | refine WL.val rfl rfl rfl ?_ | refine WL.nil ?_ | refine W.block ?_ | refine W.outBlock ?_ | refine W.skip ?_ | refine W.exit rfl ?_ | refine WL.box rfl rfl rfl ?_ | refine W.opsD ?_ | refine W.condT rfl ?_ | refine W.condF rfl ?_)
            refine WL.val rfl (aop_iaddr_sl rfl hR rfl hlt) rfl ?_
            refine WL.val rfl (aop_load_st (enc := Bucket.enc) rfl (fun _ => rfl) hlt) rfl ?_
            repeat (first | refine W.seq ?_ | refine W.ops ?_ | refine WL.off rfl rfl ?_ | refine WL.val rfl rfl rfl ?_ | refine WL.nil ?_ | refine W.block ?_ | refine W.outBlock ?_ | refine W.skip ?_ | refine W.exit rfl ?_ | refine WL.box rfl rfl rfl ?_ | refine W.opsD ?_ | refine W.condT rfl ?_ | refine W.condF rfl ?_)
            refine WL.val rfl (aop_load_h rfl hM1.st rfl) rfl ?_
            repeat (first | refine W.seq ?_ | refine W.ops ?_ | refine WL.off rfl rfl ?_ | refine WL.val rfl rfl rfl ?_ | refine WL.nil ?_ | refine W.block ?_ | refine W.outBlock ?_ | refine W.skip ?_ | refine W.exit rfl ?_ | refine WL.box rfl rfl rfl ?_ | refine W.opsD ?_ | refine W.condT rfl ?_ | refine W.condF rfl ?_)
            cases hr : stepsF s k kept1 (1, L[i].block) with
            | none => rw [hr] at hfo1; cases hfo1
            | some p =>
            obtain ⟨kept2, r2⟩ := p
            rw [hr] at hfo1
            refine WL.effv rfl rfl rfl rfl ((IH kept1 (1, L[i].block) kept2 r2 _ _ hr (hM1.mono (by omega))).mono ?_)
            rintro u h2 n3 ⟨rfl, hM2, hn2, hK2, hlo, hhi⟩
            repeat (first | refine W.seq ?_ | refine W.ops ?_ | refine WL.off rfl rfl ?_ | refine WL.val rfl rfl rfl ?_ | refine WL.nil ?_ | refine W.block ?_ | refine W.outBlock ?_ | refine W.skip ?_ | refine W.exit rfl ?_ | refine WL.box rfl rfl rfl ?_ | refine W.opsD ?_ | refine W.condT rfl ?_ | refine W.condF rfl ?_)
            refine W.cond rfl (fun hkd => ?_) (fun hkd => ?_)
            · have ek : kind = 1 := by simpa using hkd
              have ew : IntKind.wrap .i64 (n2 + r2) = n2 + r2 := wrap64 (by omega) (by omega)
              dsimp only at hfo1
              rw [if_pos ek] at hfo1
              repeat (first | refine W.seq ?_ | refine W.ops ?_ | refine WL.off rfl rfl ?_ | refine WL.val rfl rfl rfl ?_ | refine WL.nil ?_ | refine W.block ?_ | refine W.outBlock ?_ | refine W.skip ?_ | refine W.exit rfl ?_ | refine WL.box rfl rfl rfl ?_ | refine W.opsD ?_ | refine W.condT rfl ?_ | refine W.condF rfl ?_)
              rw [ew]
              exact ih (i + 1, kept2, min over (n2 + r2)) _ _ _ ⟨hlt, hM2.mono (by omega), by dsimp only [over]; omega, hfo1, by omega, fun j g1 g2 => (hK2 j (by omega) g2).trans (hK j g1 g2)⟩ (by simp only; omega) (by rw [← wrap64_nat (k := i) (by omega)]; rfl)
            · have ek : kind ≠ 1 := by simpa using hkd
              dsimp only at hfo1
              rw [if_neg ek] at hfo1
              repeat (first | refine W.seq ?_ | refine W.ops ?_ | refine WL.off rfl rfl ?_ | refine WL.val rfl rfl rfl ?_ | refine WL.nil ?_ | refine W.block ?_ | refine W.outBlock ?_ | refine W.skip ?_ | refine W.exit rfl ?_ | refine WL.box rfl rfl rfl ?_ | refine W.opsD ?_ | refine W.condT rfl ?_ | refine W.condF rfl ?_)
              exact ih (i + 1, kept2, max n2 r2) _ _ _ ⟨hlt, hM2.mono (by omega), by dsimp only; omega, hfo1, by omega, fun j g1 g2 => (hK2 j (by omega) g2).trans (hK j g1 g2)⟩ (by simp only; omega) (by rw [← wrap64_nat (k := i) (by omega)]; rfl)
          · have hge : i = L.length := by simp at hb2; omega
            subst hge
            rw [List.drop_length] at hfo1
            simp only [List.map_nil, foldN, Option.some.injEq, Prod.mk.injEq] at hfo1
            obtain ⟨rfl, rfl⟩ := hfo1
            repeat (first | refine W.seq ?_ | refine W.ops ?_ | refine WL.off rfl rfl ?_ | refine WL.val rfl rfl rfl ?_ | refine WL.nil ?_ | refine W.block ?_ | refine W.outBlock ?_ | refine W.skip ?_ | refine W.exit rfl ?_ | refine WL.box rfl rfl rfl ?_ | refine W.opsD ?_ | refine W.condT rfl ?_ | refine W.condF rfl ?_)
            refine WL.val rfl (aop_load_h rfl hM1.kp rfl) rfl ?_
            repeat (first | refine W.seq ?_ | refine W.ops ?_ | refine WL.off rfl rfl ?_ | refine WL.val rfl rfl rfl ?_ | refine WL.nil ?_ | refine W.block ?_ | refine W.outBlock ?_ | refine W.skip ?_ | refine W.exit rfl ?_ | refine WL.box rfl rfl rfl ?_ | refine W.opsD ?_ | refine W.condT rfl ?_ | refine W.condF rfl ?_)
            refine WL.mapupN (key := AM.kp) (n := (kd, id)) (mapIx_pair (fun p => p.1) (kd, id) kept1) rfl rfl rfl rfl hM1.m rfl (fun ob hob => ?_)
            have hM9 := hM1.put (Nat.le_refl _) hob (by have := hb1; first | omega | (dsimp only; omega))
            repeat (first | refine W.seq ?_ | refine W.ops ?_ | refine WL.off rfl rfl ?_ | refine WL.val rfl rfl rfl ?_ | refine WL.nil ?_ | refine W.block ?_ | refine W.outBlock ?_ | refine W.skip ?_ | refine W.exit rfl ?_ | refine WL.box rfl rfl rfl ?_ | refine W.opsD ?_ | refine W.condT rfl ?_ | refine W.condF rfl ?_)
            refine WL.val rfl (aop_load_h rfl hM9.kp rfl) rfl ?_
            repeat (first | refine W.seq ?_ | refine W.ops ?_ | refine WL.off rfl rfl ?_ | refine WL.val rfl rfl rfl ?_ | refine WL.nil ?_ | refine W.block ?_ | refine W.outBlock ?_ | refine W.skip ?_ | refine W.exit rfl ?_ | refine WL.box rfl rfl rfl ?_ | refine W.opsD ?_ | refine W.condT rfl ?_ | refine W.condF rfl ?_)
            refine WL.lookN (key := AM.kp) (n := (kd, id)) (mapIx_pair (fun p : Th × Int => p.1) (kd, id) (mput kept1 (kd, id) _)) rfl rfl rfl hM9.m rfl ?_
            rw [mget_mput, if_pos (beq_self_eq_true _)]
            repeat (first | refine W.seq ?_ | refine W.ops ?_ | refine WL.off rfl rfl ?_ | refine WL.val rfl rfl rfl ?_ | refine WL.nil ?_ | refine W.block ?_ | refine W.outBlock ?_ | refine W.skip ?_ | refine W.exit rfl ?_ | refine WL.box rfl rfl rfl ?_ | refine W.opsD ?_ | refine W.condT rfl ?_ | refine W.condF rfl ?_)
            have hne : ∀ j, j.1 < n → j ≠ oK → (h1.put oK ob).get j = h.get j := fun j h1 h2 => by rw [Heap.get_put, if_neg h2]; exact hK j h1 h2
            exact W.ret ⟨_, rfl, rfl, hM9.mono (by have := hn1; dsimp only; omega), by have := hn1; dsimp only; omega, hne, by have := hb1; dsimp only [over]; omega⟩

theorem most_c (s : Solv) (a : AV) (hs : IsSolv s a) (x : Th) (k : Nat) (kept : Mem) (r : Int) (hd : stepsF s k [] x = some (kept, r)) : VC1 T 45 [a, .agg (encP x)] (.int .i64 r) := by
  obtain ⟨cs, rfl⟩ := hs.form
  refine VC1.of (vf := v45) rfl rfl ?_
  unfold v45
  repeat (first | refine W.seq ?_ | refine W.ops ?_ | refine WL.off rfl rfl ?_ | refine WL.val rfl rfl rfl ?_ | refine WL.nil ?_ | refine W.block ?_ | refine W.outBlock ?_ | refine W.skip ?_ | refine W.exit rfl ?_ | refine WL.box rfl rfl rfl ?_ | refine W.opsD ?_ | refine W.condT rfl ?_ | refine W.condF rfl ?_ | refine WL.heap rfl rfl rfl ?_)
  refine WL.effv rfl rfl rfl rfl ((steps_c s _ hs (1, 1) (0, 0) (2, 0) (3, 1) (1, 0) k [] x kept r _ _ hd ?_).mono ?_)
  · exact ⟨rfl, rfl, rfl, rfl, ⟨[], 0, rfl⟩, by repeat first | exact Fresh.empty _ | refine Fresh.put ?_ (by decide) (Nat.le_refl _), by decide, by decide, by decide, by decide, by simp⟩
  · rintro u h2 n3 ⟨rfl, _⟩
    repeat (first | refine W.seq ?_ | refine W.ops ?_ | refine WL.off rfl rfl ?_ | refine WL.val rfl rfl rfl ?_ | refine WL.nil ?_ | refine W.block ?_ | refine W.outBlock ?_ | refine W.skip ?_ | refine W.exit rfl ?_ | refine WL.box rfl rfl rfl ?_ | refine W.opsD ?_ | refine W.condT rfl ?_ | refine W.condF rfl ?_)
    exact W.ret ⟨_, rfl, rfl⟩
end
end Go.AM.B
