/- Parts of the proof: AM.Fast, AM.Mono, B.Awake, AM.Arg, B.Args, AM.App, AM.Deep, B.Tower, B.TowerP, B.TowerL, B.Code, B.NamesP. -/
import Derived.Test.YtebogdeaiecldaaAmDraw4
import Derived.Test.YtebogdeaiecldaaBxLeads
import Derived.KernelRfl
import Derived.Carry
import Derived.Test.YtebogdeaiecldaaTxTabB
import Derived.Test.YtebogdeaiecldaaBxGraph
/- AM, part 27: the run, in small parts: for the kernel, which copies a function's whole text at each step. -/
namespace Go.AM
noncomputable section
set_option linter.unusedVariables false
set_option linter.unusedSimpArgs false

def fCall (call : CallF) (nid : Id) (o : VO) (s : St) (f : FuncId) (args : List Operand) : Option (St × Foot) :=
  match evAs s.env args with
  | some l => match callM call o.mode nid f l s.heap s.next with
    | some (r, h, n) => some ({ env := (putDst s o.dst (.v r)).env, heap := h, next := n }, match o.mode with
      | .eff => ([.heap], [.heap])
      | .pure => ([], [])
      | .view => (flatK (purK purLimit s.heap) l, [])
      | .fresh => ([], [.obj nid])
      | .vfresh => (flatK (purK purLimit s.heap) l, [.obj nid]))
    | none => none
  | none => none
def fCallv (call : CallF) (o : VO) (s : St) (g : Operand) (args : List Operand) : Option (St × Foot) :=
  match evAs s.env args with
  | some l => match target s.env g l with
    | some (f, l) => match call f l s.heap s.next with
      | some (r, h, n) => some ({ env := (putDst s o.dst (.v r)).env, heap := h, next := n }, ([.heap], [.heap]))
      | none => none
    | none => none
  | none => none
def fRest (nid : Id) (o : VO) (s : St) : Option (St × Foot) :=
  match aopF s.env s.heap nid o.dst o.op with
  | some e => some (s.eff o.dst e, (e.rd, e.wr))
  | none => none
def fOn (call : CallF) (nid : Id) (o : VO) (s : St) : Option (St × Foot) :=
  match o.op with
  | .call f args => fCall call nid o s f args
  | .callv g args => fCallv call o s g args
  | op => fRest nid o s
def step1F (call : CallF) (nid : Id) (o : VO) (s : St) : Option (St × Foot) :=
  match o.guard with
  | none => fOn call nid o s
  | g => match wantedA s.env g with
    | some true => fOn call nid o s
    | some false => some (putDst s o.dst (.v (.tuple [])), ([], skipWr o))
    | none => none

theorem fOn_eq (call : CallF) (nid : Id) (o : VO) (s : St) (hw : wantedA s.env o.guard = some true) : fOn call nid o s = step1 call nid o s := by
  unfold fOn step1
  rw [hw]
  simp only
  cases hop : o.op <;> simp only [fCall, fCallv, fRest, aopF_eq, hop] <;> rfl
theorem step1F_eq (call : CallF) (nid : Id) (o : VO) (s : St) : step1F call nid o s = step1 call nid o s := by
  unfold step1F
  split
  · rename_i hg
    exact fOn_eq call nid o s (by rw [hg]; rfl)
  · split
    · rename_i hw; exact fOn_eq call nid o s hw
    · rename_i hw; unfold step1; rw [hw]
    · rename_i hw; unfold step1; rw [hw]

def runLF (call : CallF) (nr : Nat) (i : Nat) (l : List VO) (s : St) : Option St :=
  List.rec (motive := fun _ => Nat → St → Option St) (fun _ s => some s) (fun o _ ih i s => Option.rec none (fun p => Prod.rec (fun s' _ => ih (Nat.succ i) s') p) (step1F call (nr, i) o s)) l i s
theorem runLF_n (call : CallF) (nr i : Nat) (s : St) : runLF call nr i [] s = some s := rfl
theorem runLF_c (call : CallF) (nr i : Nat) (o : VO) (r : List VO) (s : St) : runLF call nr i (o :: r) s = (match step1F call (nr, i) o s with
    | some (s', _) => runLF call nr (i + 1) r s'
    | none => none) := by
  have h : runLF call nr i (o :: r) s = Option.rec (motive := fun _ => Option St) none (fun p => Prod.rec (motive := fun _ => Option St) (fun s' _ => runLF call nr (Nat.succ i) r s') p) (step1F call (nr, i) o s) := rfl
  rw [h]
  cases step1F call (nr, i) o s with
  | none => rfl
  | some p => obtain ⟨s', f⟩ := p; rfl
theorem runLF_eq (call : CallF) (nr : Nat) : ∀ (l : List VO) (i : Nat) (s : St), runLF call nr i l s = runL call nr i l s
  | [], i, s => rfl
  | o :: r, i, s => by
    rw [runLF_c]
    simp only [runL, step1F_eq]
    cases hst : step1 call (nr, i) o s with
    | none => rfl
    | some p =>
      obtain ⟨s', f⟩ := p
      exact runLF_eq call nr r _ _
def runDF (call : CallF) (nr : Nat) (un : List (Nat × Nat)) (e0 : Env) : Nat → List (Nat × Foot) → List VO → St → Option St
  | _, _, [], s => some s
  | i, log, o :: r, s => match step1F call (nr, i) o s with
    | some (s', f) => bif clashes un i f log || !(startOk e0 o) || led o log then none else runDF call nr un e0 (i + 1) ((i, f) :: log) r s'
    | none => none
theorem runDF_eq (call : CallF) (nr : Nat) (un : List (Nat × Nat)) (e0 : Env) : ∀ (l : List VO) (i : Nat) (log : List (Nat × Foot)) (s : St), runDF call nr un e0 i log l s = runD call nr un e0 i log l s
  | [], i, log, s => rfl
  | o :: r, i, log, s => by
    simp only [runDF, runD, step1F_eq]
    cases hst : step1 call (nr, i) o s with
    | none => rfl
    | some p =>
      obtain ⟨s', f⟩ := p
      simp only [runDF_eq call nr un e0 r]

def callWith (T : FuncId → Option VFun) (R : List Item → St → Option St) : CallF := fun f args h next => match T f with
  | some vf => bif vf.nargs == args.length then
      match R [.code vf.body] { env := initEnv 0 args, heap := h, next } with
      | some s' => match readRess s'.env s'.heap vf.results with
        | some l => some (theRes l, s'.heap, s'.next)
        | none => none
      | none => none
    else none
  | none => none
def fOps (call : CallF) (un : Option (List (Nat × Nat))) (l : List VO) (s : St) : Option St :=
  match un with
  | none => runLF call s.next 0 l { s with next := s.next + 1 }
  | some un => runDF call s.next un s.env 0 [] l { s with next := s.next + 1 }
def fThen (R : St → Option St) : Option St → Option St
  | some s => R s
  | none => none
def fCode (T : FuncId → Option VFun) (R : List Item → St → Option St) (t : List Item) (s : St) : VC → Option St
  | .skip => R t s
  | .seq a b => R (.code a :: .code b :: t) s
  | .cond x a b => match evA s.env x with
    | some (.bool true) => R (.code a :: t) s
    | some (.bool false) => R (.code b :: t) s
    | _ => none
  | .block id c => R (.code c :: .inBlock id :: t) s
  | .loop ks c => R (.code c :: .inLoop ks c :: t) { s with env := s.env.kill ks }
  | .exit id => match exitTo id t with
    | some t' => R t' s
    | none => none
  | .ret => some s
  | .ops un l => fThen (R t) (fOps (callWith T R) un l s)
def fItems (T : FuncId → Option VFun) (R : List Item → St → Option St) (s : St) : List Item → Option St
  | [] => some s
  | .inBlock _ :: t => R t s
  | .inLoop ks c :: t => R (.code c :: .inLoop ks c :: t) { s with env := s.env.kill ks }
  | .code c :: t => fCode T R t s c
def runF (T : FuncId → Option VFun) (k : Nat) : List Item → St → Option St :=
  Nat.rec (motive := fun _ => List Item → St → Option St) (fun _ _ => none) (fun _ R items s => fItems T R s items) k
theorem runF_s (T : FuncId → Option VFun) (k : Nat) (items : List Item) (s : St) : runF T (k + 1) items s = fItems T (runF T k) s items := rfl

theorem callWith_eq (T : FuncId → Option VFun) {k : Nat} (h : runF T k = run T k) : callWith T (runF T k) = callT T k := by
  funext f args hp n
  simp only [callWith, callT, h]
  rfl
theorem runF_eq (T : FuncId → Option VFun) : ∀ k, runF T k = run T k
  | 0 => by funext items s; rfl
  | k + 1 => by
    have ih := runF_eq T k
    have hc := callWith_eq T ih
    funext items s
    rw [runF_s]
    cases items with
    | nil => rfl
    | cons i t =>
      cases i with
      | inBlock id => simp only [fItems, ih, run]
      | inLoop ks c => simp only [fItems, ih, run]
      | code c =>
        cases c with
        | ops un l =>
          have hc' : callWith T (run T k) = callT T k := by rw [← ih]; exact hc
          simp only [fItems, fCode, ih, hc', run]
          change _ = match (match un with
            | none => runL (callT T k) s.next 0 l { env := s.env, heap := s.heap, next := s.next + 1 }
            | some un => runD (callT T k) s.next un s.env 0 [] l { env := s.env, heap := s.heap, next := s.next + 1 }) with
            | some s' => run T k t s'
            | none => none
          cases un with
          | none =>
            simp only [fOps, runLF_eq]
            cases runL (callT T k) s.next 0 l { env := s.env, heap := s.heap, next := s.next + 1 } <;> rfl
          | some un =>
            simp only [fOps, runDF_eq]
            cases runD (callT T k) s.next un s.env 0 [] l { env := s.env, heap := s.heap, next := s.next + 1 } <;> rfl
        | _ => simp only [fItems, fCode, ih, run] <;> rfl
def callF (T : FuncId → Option VFun) (k : Nat) : CallF := callWith T (runF T k)
theorem callF_eq (T : FuncId → Option VFun) (k : Nat) : callF T k = callT T k := callWith_eq T (runF_eq T k)
end
end Go.AM

/- AM, part 33: more steps say the same: a run that the kernel has made is a contract. -/
namespace Go.AM
noncomputable section
set_option linter.unusedVariables false
set_option linter.unusedSimpArgs false

def Le (c d : CallF) : Prop := ∀ f a h n r, c f a h n = some r → d f a h n = some r
theorem callM_mono {c d : CallF} (L : Le c d) {md : Mode} {nid : Id} {f : FuncId} {args : List AV} {h : Heap} {n : Nat} {r : AV × Heap × Nat} (H : callM c md nid f args h n = some r) : callM d md nid f args h n = some r := by
  cases md with
  | eff => exact L _ _ _ _ _ H
  | pure =>
    simp only [callM] at H ⊢
    cases hs : stills args
    · rw [hs] at H; cases H
    · rw [hs] at H
      simp only [cond_true] at H ⊢
      cases hc : c f args Heap.empty 0 with
      | none => rw [hc] at H; cases H
      | some p => rw [hc] at H; rw [L _ _ _ _ _ hc]; exact H
  | view =>
    simp only [callM] at H ⊢
    cases hs : mapO (pur purLimit h) args with
    | none => rw [hs] at H; cases H
    | some l =>
      rw [hs] at H
      simp only at H ⊢
      cases hc : c f l Heap.empty 0 with
      | none => rw [hc] at H; cases H
      | some p => rw [hc] at H; rw [L _ _ _ _ _ hc]; exact H
  | fresh =>
    simp only [callM] at H ⊢
    cases hs : stills args
    · rw [hs] at H; cases H
    · rw [hs] at H
      simp only [cond_true] at H ⊢
      cases hc : c f args Heap.empty 0 with
      | none => rw [hc] at H; cases H
      | some p => rw [hc] at H; rw [L _ _ _ _ _ hc]; exact H
  | vfresh =>
    simp only [callM] at H ⊢
    cases hs : mapO (pur purLimit h) args with
    | none => rw [hs] at H; cases H
    | some l =>
      rw [hs] at H
      simp only at H ⊢
      cases hc : c f l Heap.empty 0 with
      | none => rw [hc] at H; cases H
      | some p => rw [hc] at H; rw [L _ _ _ _ _ hc]; exact H
theorem step1_mono {c d : CallF} (L : Le c d) {nid : Id} {o : VO} {s : St} {r : St × Foot} (H : step1 c nid o s = some r) : step1 d nid o s = some r := by
  unfold step1 at H ⊢
  split at H
  · exact H
  · exact H
  · split at H
    · rename_i f args ho
      cases he : evAs s.env args with
      | none => rw [he] at H; cases H
      | some l =>
        rw [he] at H
        simp only at H ⊢
        cases hc : callM c o.mode nid f l s.heap s.next with
        | none => rw [hc] at H; cases H
        | some p => rw [hc] at H; rw [callM_mono L hc]; exact H
    · rename_i g args ho
      cases he : evAs s.env args with
      | none => rw [he] at H; cases H
      | some l =>
        rw [he] at H
        simp only at H ⊢
        cases ht : target s.env g l with
        | none => rw [ht] at H; cases H
        | some p =>
          obtain ⟨f, l'⟩ := p
          rw [ht] at H
          simp only at H ⊢
          cases hc : c f l' s.heap s.next with
          | none => rw [hc] at H; cases H
          | some p => rw [hc] at H; rw [L _ _ _ _ _ hc]; exact H
    · exact H
theorem runL_mono {c d : CallF} (L : Le c d) {nr : Nat} : ∀ {l : List VO} {i : Nat} {s s' : St}, runL c nr i l s = some s' → runL d nr i l s = some s' := by
  intro l
  induction l with
  | nil => intro i s s' h; exact h
  | cons o l ih =>
    intro i s s' h
    simp only [runL] at h ⊢
    cases hs : step1 c (nr, i) o s with
    | none => rw [hs] at h; cases h
    | some p => rw [hs] at h; rw [step1_mono L hs]; exact ih h
theorem runD_mono {c d : CallF} (L : Le c d) {nr : Nat} {un : List (Nat × Nat)} {e0 : Env} : ∀ {l : List VO} {i : Nat} {log : List (Nat × Foot)} {s s' : St}, runD c nr un e0 i log l s = some s' → runD d nr un e0 i log l s = some s' := by
  intro l
  induction l with
  | nil => intro i log s s' h; exact h
  | cons o l ih =>
    intro i log s s' h
    simp only [runD] at h ⊢
    cases hs : step1 c (nr, i) o s with
    | none => rw [hs] at h; cases h
    | some p =>
      obtain ⟨s1, f⟩ := p
      rw [hs] at h
      rw [step1_mono L hs]
      simp only at h ⊢
      cases hc : (clashes un i f log || !(startOk e0 o) || led o log)
      · rw [hc] at h; exact ih h
      · rw [hc] at h; cases h
theorem callT_mono' {T : FuncId → Option VFun} {k : Nat} (h : ∀ items s r, run T k items s = some r → run T (k + 1) items s = some r) : Le (callT T k) (callT T (k + 1)) := by
  intro f a hp n r hc
  unfold callT at hc ⊢
  cases hT : T f with
  | none => rw [hT] at hc; cases hc
  | some vf =>
    rw [hT] at hc
    simp only at hc ⊢
    cases hb : (vf.nargs == a.length)
    · rw [hb] at hc; cases hc
    · rw [hb] at hc
      simp only [cond_true] at hc ⊢
      cases hr : run T k [.code vf.body] ⟨initEnv 0 a, hp, n⟩ with
      | none => rw [hr] at hc; cases hc
      | some s' => rw [hr] at hc; rw [h _ _ _ hr]; exact hc
theorem run_mono {T : FuncId → Option VFun} : ∀ (k : Nat) (items : List Item) (s r : St), run T k items s = some r → run T (k + 1) items s = some r := by
  intro k
  induction k with
  | zero => intro items s r h; cases h
  | succ k ih =>
    intro items s r h
    have L := callT_mono' ih
    cases items with
    | nil => exact h
    | cons it t =>
      cases it with
      | inBlock id => exact ih _ _ _ h
      | inLoop ks c => exact ih _ _ _ h
      | code c =>
        cases c with
        | skip => exact ih _ _ _ h
        | seq a b => exact ih _ _ _ h
        | block id a => exact ih _ _ _ h
        | loop ks a => exact ih _ _ _ h
        | ret => exact h
        | exit id =>
          simp only [run] at h ⊢
          cases he : exitTo id t with
          | none => rw [he] at h; cases h
          | some t' => rw [he] at h; exact ih _ _ _ h
        | cond x a b =>
          have e : ∀ k, run T (k + 1) (.code (.cond x a b) :: t) s = (match evA s.env x with
            | some (.bool true) => run T k (.code a :: t) s
            | some (.bool false) => run T k (.code b :: t) s
            | _ => none) := fun k => rfl
          rw [e] at h ⊢
          split at h
          · exact ih _ _ _ h
          · exact ih _ _ _ h
          · cases h
        | ops un l =>
          have e : ∀ k, run T (k + 1) (.code (.ops un l) :: t) s = (match (match un with
              | none => runL (callT T k) s.next 0 l { s with next := s.next + 1 }
              | some un => runD (callT T k) s.next un s.env 0 [] l { s with next := s.next + 1 }) with
            | some s' => run T k t s'
            | none => none) := fun k => rfl
          rw [e] at h ⊢
          cases un with
          | none =>
            simp only at h ⊢
            cases hr : runL (callT T k) s.next 0 l { s with next := s.next + 1 } with
            | none => rw [hr] at h; cases h
            | some s' => rw [hr] at h; rw [runL_mono L hr]; exact ih _ _ _ h
          | some un =>
            simp only at h ⊢
            cases hr : runD (callT T k) s.next un s.env 0 [] l { s with next := s.next + 1 } with
            | none => rw [hr] at h; cases h
            | some s' => rw [hr] at h; rw [runD_mono L hr]; exact ih _ _ _ h
theorem callT_mono {T : FuncId → Option VFun} {k j : Nat} (hj : k ≤ j) : Le (callT T k) (callT T j) := by
  induction hj with
  | refl => intro f a h n r hc; exact hc
  | step _ ih => intro f a h n r hc; exact callT_mono' (run_mono _) _ _ _ _ _ (ih _ _ _ _ _ hc)
/-- A closed call that the kernel has run. -/
theorem VC1.closed {T : FuncId → Option VFun} {f : FuncId} {k : Nat} (h : saysTrue (callT T k f [] Heap.empty 0) = true) : VC1 T f [] (.bool true) := by
  cases hc : callT T k f [] Heap.empty 0 with
  | none => rw [hc] at h; cases h
  | some p =>
    obtain ⟨r, h', n'⟩ := p
    rw [hc] at h
    have : r = .bool true := by
      cases r with
      | bool b => cases b with
        | true => rfl
        | false => cases h
      | _ => cases h
    subst this
    exact ⟨.bool true, h', n', ⟨k, fun j hj => callT_mono hj _ _ _ _ _ hc⟩, rfl⟩
end
end Go.AM

/- The examples: run by the kernel. -/
namespace Go.AM.B
open Go.Proofs.Ytebogdeaiecldaa.Tab
set_option maxRecDepth 1000000 in
theorem awake_run : saysTrue (callF (tabOf vfs) 100000 11 [] Heap.empty 0) = true := by kernel_rfl
theorem awake_c : VC1 T 11 [] (.bool true) := VC1.closed (k := 100000) (by rw [← callF_eq]; exact awake_run)
end Go.AM.B

/- AM, part 31: what came in, as abstract values; the call of a law. -/
namespace Go.AM
noncomputable section
set_option linter.unusedVariables false
set_option linter.unusedSimpArgs false

theorem mapM_get {α β : Type} {f : α → Option β} : ∀ {l : List α} {ys : List β}, l.mapM f = some ys → ys.length = l.length ∧ ∀ (i : Nat) (y : β), ys[i]? = some y → ∃ x, l[i]? = some x ∧ f x = some y := by
  intro l
  induction l with
  | nil => intro ys h; simp at h; subst h; exact ⟨rfl, fun i y h => by simp at h⟩
  | cons a l ih =>
    intro ys h
    rw [List.mapM_cons] at h
    cases ha : f a with
    | none => rw [ha] at h; simp at h
    | some b =>
      cases hl : l.mapM f with
      | none => rw [ha, hl] at h; simp at h
      | some bs =>
        rw [ha, hl] at h
        simp at h
        subst h
        obtain ⟨h1, h2⟩ := ih hl
        refine ⟨by simp [h1], fun i y hy => ?_⟩
        cases i with
        | zero => simp at hy; subst hy; exact ⟨a, rfl, ha⟩
        | succ i => simp at hy; obtain ⟨x, q1, q2⟩ := h2 i y hy; exact ⟨x, by simpa using q1, q2⟩

variable {P : Program} {W : World} {F : Nat → Prop}
def RVl (F : Nat → Prop) (W : World) (l : List AV) (cs : List Value) : Prop := l.length = cs.length ∧ ∀ (j : Nat) (u : AV) (c : Value), l[j]? = some u → cs[j]? = some c → RV F W ι0 u c
theorem RVl.nil : RVl F W [] [] := ⟨rfl, fun j u c h => by simp at h⟩
theorem RVl.one {u : AV} {c : Value} (h : RV F W ι0 u c) : RVl F W [u] [c] := ⟨rfl, fun j u' c' h1 h2 => by
  cases j with
  | zero => simp at h1 h2; subst h1; subst h2; exact h
  | succ j => simp at h1⟩
theorem RVl.append {l m : List AV} {cs ds : List Value} (h : RVl F W l cs) (k : RVl F W m ds) : RVl F W (l ++ m) (cs ++ ds) := by
  refine ⟨by simp [h.1, k.1], fun j u c h1 h2 => ?_⟩
  have e := h.1
  by_cases hj : j < l.length
  · rw [List.getElem?_append_left hj] at h1
    rw [List.getElem?_append_left (by omega)] at h2
    exact h.2 j u c h1 h2
  · rw [List.getElem?_append_right (by omega)] at h1
    rw [List.getElem?_append_right (by omega), ← e] at h2
    exact k.2 _ u c h1 h2

/-- How a type's cells read: as 'enc' of something of which 'ok' holds. -/
def Rd (P : Program) (t : TypeId) {α : Type} (enc : α → List AV) (ok : α → Prop) : Prop :=
  ∀ (W : World) (H : Type) (eh : TypeId × Value → H) (fuel : Nat) (cs : List Value) (x : DataW H × List MemPlace), DataW.trod eh P W 0 (fun _ => true) true fuel t cs = some x → (∀ n ∈ x.1.weights P t, n ≤ reachBytes) → ∃ a : α, ok a ∧ RVl (fun b => b < W.heap.size) W (enc a) cs
theorem Rd.map {t : TypeId} {α β : Type} {enc : α → List AV} {ok : α → Prop} {enc' : β → List AV} {ok' : β → Prop} (h : Rd P t enc ok) (g : α → β) (he : ∀ a, enc' (g a) = enc a) (hk : ∀ a, ok a → ok' (g a)) : Rd P t enc' ok' := by
  intro W H eh fuel cs x hx hwt
  obtain ⟨a, h1, h2⟩ := h W H eh fuel cs x hx hwt
  exact ⟨g a, hk a h1, by rw [he]; exact h2⟩
def litOk (k : IntKind) (n : Int) : Prop := (Lit.int k n).wf = true
theorem Rd.int {t : TypeId} {k : IntKind} (hu : P.underlying t = some (.int k)) : Rd P t (fun n : Int => [.int k n]) (litOk k) := by
  intro W H eh fuel cs x hx hwt
  cases fuel with
  | zero => simp [DataW.trod] at hx
  | succ fuel =>
    unfold DataW.trod at hx
    rw [hu] at hx
    split at hx <;> first | (cases hx; done) | skip
    all_goals rename_i hh
    all_goals first | (cases hh; done) | skip
    rename_i k1 k2 n
    simp only [Option.some.injEq, TypeDesc.int.injEq] at hh
    subst hh
    split at hx
    · rename_i hc
      obtain ⟨rfl, hw⟩ := hc
      exact ⟨n, hw, RVl.one (.int _ _ _)⟩
    · cases hx

theorem Rd.bool {t : TypeId} (hu : P.underlying t = some .bool) : Rd P t (fun b : Bool => [.bool b]) (fun _ => True) := by
  intro W H eh fuel cs x hx hwt
  cases fuel with
  | zero => simp [DataW.trod] at hx
  | succ fuel =>
    unfold DataW.trod at hx
    rw [hu] at hx
    split at hx <;> first | (cases hx; done) | skip
    all_goals rename_i hh
    all_goals first | (cases hh; done) | skip
    exact ⟨_, trivial, RVl.one (.bool _ _)⟩
theorem Rd.str {t : TypeId} (hu : P.underlying t = some .string) : Rd P t (fun b : ByteArray => [.str b]) (fun b => b.size ≤ maxLen) := by
  intro W H eh fuel cs x hx hwt
  cases fuel with
  | zero => simp [DataW.trod] at hx
  | succ fuel =>
    unfold DataW.trod at hx
    rw [hu] at hx
    split at hx <;> first | (cases hx; done) | skip
    all_goals rename_i hh
    all_goals first | (cases hh; done) | skip
    split at hx
    · rename_i hc; exact ⟨_, hc, RVl.one (.str _ _)⟩
    · cases hx
theorem cell_addr {a : Addr} {v : Value} (h : W.cell? a = some v) : a = ⟨a.block, a.off, none⟩ ∧ a.block < W.heap.size := by
  unfold World.cell? at h
  split at h
  · rename_i c t f hh
    refine ⟨?_, (Array.getElem?_eq_some_iff.1 hh).1⟩
    cases hs : a.spot with
    | none => rw [← hs]
    | some s => rw [hs] at h; simp at h
  · cases h
theorem add_addr {a : Addr} {n : Nat} {v : Value} (h : W.cell? (a.add n) = some v) : a.add n = ⟨a.block, a.off + n, none⟩ := by
  have h1 := (cell_addr h).1
  unfold Addr.add at h1 ⊢
  split
  · rename_i h0
    subst h0
    rw [if_pos rfl] at h1
    exact h1
  · rfl
theorem cells_get {base : Nat} {a : Addr} {n : Nat} {cs : List Value} (h : W.cells? base a n = some cs) : cs.length = n ∧ ∀ (i : Nat) (v : Value), cs[i]? = some v → W.cell? (a.add i) = some v := by
  unfold World.cells? at h
  split at h
  · obtain ⟨h1, h2⟩ := mapM_get h
    refine ⟨by simpa using h1, fun i v hv => ?_⟩
    obtain ⟨x, q1, q2⟩ := h2 i v hv
    obtain ⟨hi, e⟩ := List.getElem?_eq_some_iff.1 q1
    simp at e
    subst e
    exact q2
  · cases h
theorem weightsAll_mem {H : Type} {e : TypeId} : ∀ {l : List (DataW H)} {d : DataW H} {n : Nat}, d ∈ l → n ∈ d.weights P e → n ∈ DataW.weightsAll P e l := by
  intro l
  induction l with
  | nil => intro d n h; cases h
  | cons a l ih =>
    intro d n h hn
    rw [DataW.weightsAll]
    rcases List.mem_cons.1 h with rfl | h
    · exact List.mem_append.2 (.inl hn)
    · exact List.mem_append.2 (.inr (ih h hn))
theorem Rd.slice {t e : TypeId} {k : Nat} {α : Type} {enc : α → List AV} {ok : α → Prop} (hu : P.underlying t = some (.slice e)) (hk : P.cellsOf e = k) (hk0 : 0 < k) (hby : Nat.ble 1 (P.bytesOf e) = true) (he : Rd P e enc ok) (hl : ∀ a, (enc a).length = k) :
    Rd P t (fun s : List α × Bool × Nat => [.pslice (s.1.flatMap enc) s.1.length s.2.2 s.2.1]) (fun s => (∀ a ∈ s.1, ok a) ∧ s.1.length ≤ reachBytes) := by
  intro W H eh fuel cs x hx hwt
  cases fuel with
  | zero => simp [DataW.trod] at hx
  | succ fuel =>
    unfold DataW.trod at hx
    rw [hu] at hx
    split at hx <;> first | (cases hx; done) | skip
    all_goals rename_i hh
    all_goals first | (cases hh; done) | skip
    · exact ⟨([], true, 0), ⟨(fun a ha => by cases ha), Nat.zero_le _⟩, RVl.one (.pslice _ [] 0 0 true none 0 0 0 (fun _ => undef) (Nat.le_refl _) (Nat.zero_le _) (fun _ => rfl) (fun h => absurd h (Nat.lt_irrefl _)) (fun h => absurd rfl h) (fun j u hu => by simp at hu) (fun j u hu => by simp at hu))⟩
    · rename_i e1 a len cap
      simp only [Option.some.injEq, TypeDesc.slice.injEq] at hh
      subst hh
      simp only at hx
      split at hx
      case isFalse => cases hx
      rename_i hc
      simp only [Option.map_eq_some_iff, Option.bind_eq_some_iff] at hx
      obtain ⟨elems, hel, rest, hrest, hxe⟩ := hx
      subst hxe
      have hw0 : ∀ n ∈ (((elems.map (·.1)).length + (rest.map (·.1)).length) * P.bytesOf e :: (DataW.weightsAll P e (elems.map (·.1)) ++ DataW.weightsAll P e (rest.map (·.1)))), n ≤ reachBytes := by
        have : (DataW.slice (elems.map (·.1)) (rest.map (·.1))).weights P t = (((elems.map (·.1)).length + (rest.map (·.1)).length) * P.bytesOf e :: (DataW.weightsAll P e (elems.map (·.1)) ++ DataW.weightsAll P e (rest.map (·.1)))) := by
          rw [DataW.weights, hu]
        rw [← this]; exact hwt
      obtain ⟨h1, h2⟩ := mapM_get hel
      have hlen : elems.length = len := by simpa using h1
      have one : ∀ i : Fin len, ∃ y : α, ok y ∧ ∃ ds, W.cells? 0 (a.add (i.1 * k)) k = some ds ∧ RVl (fun b => b < W.heap.size) W (enc y) ds := by
        intro i
        obtain ⟨q, q1, q2⟩ := h2 i.1 elems[i.1] (List.getElem?_eq_getElem (by omega))
        obtain ⟨hi, e⟩ := List.getElem?_eq_some_iff.1 q1
        simp at e
        subst e
        simp only [Option.bind_eq_some_iff] at q2
        obtain ⟨ds, g1, g2⟩ := q2
        obtain ⟨y, y1, y2⟩ := he W H eh fuel ds _ g2 (fun n hn => hw0 n (List.mem_cons_of_mem _ (List.mem_append.2 (.inl (weightsAll_mem (List.mem_map.2 ⟨elems[i.1], List.getElem_mem _, rfl⟩) hn)))))
        rw [hk] at g1
        exact ⟨y, y1, ds, g1, y2⟩
      let l : List α := List.ofFn fun i => (one i).choose
      have hll : l.length = len := List.length_ofFn
      have hget : ∀ i (h : i < l.length), ok l[i] ∧ ∃ ds, W.cells? 0 (a.add (i * k)) k = some ds ∧ RVl (fun b => b < W.heap.size) W (enc l[i]) ds := by
        intro i h
        have e : l[i] = (one ⟨i, by omega⟩).choose := by simp [l]
        rw [e]
        exact (one ⟨i, by omega⟩).choose_spec
      have cellAt : ∀ (j : Nat) (u : AV), (l.flatMap enc)[j]? = some u → ∃ v, W.cell? ⟨a.block, a.off + j, none⟩ = some v ∧ RV (fun b => b < W.heap.size) W ι0 u v := by
        intro j u hu
        have hj : j < (l.flatMap enc).length := (List.getElem?_eq_some_iff.1 hu).1
        rw [flat_len hl] at hj
        have hdm : j = (j / k) * k + j % k := by rw [Nat.mul_comm]; exact (Nat.div_add_mod j k).symm
        have hik : j / k < l.length := Nat.div_lt_of_lt_mul (by rw [Nat.mul_comm]; exact hj)
        have hok : j % k < k := Nat.mod_lt _ hk0
        obtain ⟨_, ds, d1, d2⟩ := hget (j / k) hik
        obtain ⟨c1, c2⟩ := cells_get d1
        rw [hdm, flat_get hl hik hok] at hu
        have hds : ds[j % k]? = some ds[j % k] := List.getElem?_eq_getElem (by omega)
        have hc2 := c2 (j % k) _ hds
        have hc0 := c2 0 _ (List.getElem?_eq_getElem (by omega))
        have e0 := add_addr hc0
        refine ⟨ds[j % k], ?_, d2.2 (j % k) u _ hu hds⟩
        have e1 := add_addr hc2
        rw [e1] at hc2
        have eb : (a.add (j / k * k)).block = a.block ∧ (a.add (j / k * k)).off = a.off + j / k * k := by
          unfold Addr.add; split
          · rename_i h0; rw [h0]; exact ⟨rfl, rfl⟩
          · exact ⟨rfl, rfl⟩
        rw [eb.1, eb.2, Nat.add_assoc, ← hdm] at hc2
        exact hc2
      refine ⟨(l, len == cap, 0), ⟨fun y hy => ?_, ?_⟩, RVl.one ?_⟩
      · obtain ⟨i, hi, rfl⟩ := List.mem_iff_getElem.1 hy
        exact (hget i hi).1
      · have h3 := hw0 _ (List.mem_cons_self)
        have h4 : len ≤ ((elems.map (·.1)).length + (rest.map (·.1)).length) * P.bytesOf e := by
          rw [List.length_map, hlen]
          exact Nat.le_trans (Nat.le_add_right _ _) (Nat.le_mul_of_pos_right _ (Nat.le_of_ble_eq_true hby))
        dsimp only
        rw [hll]; exact Nat.le_trans h4 h3
      · rw [hll]
        refine .pslice _ _ len 0 _ (some a) cap a.block a.off (fun j => (W.cell? ⟨a.block, a.off + j, none⟩).getD undef) hc.2.1 hc.2.2 (fun h => (beq_iff_eq.1 (show (len == cap) = true from h)).symm) (fun hp => ?_) (fun hne => ?_) (fun j u hu => ?_) (fun j u hu => ?_)
        · obtain ⟨_, ds, d1, d2⟩ := hget 0 (by omega)
          obtain ⟨c1, c2⟩ := cells_get d1
          have hc0 := c2 0 _ (List.getElem?_eq_getElem (by omega))
          have ea : (a.add (0 * k)).add 0 = a := by simp [Addr.add]
          rw [ea] at hc0
          obtain ⟨q1, q2⟩ := cell_addr hc0
          exact ⟨by rw [← q1], q2⟩
        · refine Nat.pos_of_ne_zero fun h0 => hne ?_
          have : l = [] := List.eq_nil_of_length_eq_zero (by omega)
          simp [this]
        · obtain ⟨v, v1, v2⟩ := cellAt j u hu
          rw [v1]; rfl
        · obtain ⟨v, v1, v2⟩ := cellAt j u hu
          rw [v1]; exact v2

/-- A struct's fields, from a place on. -/
def RdF (P : Program) (fs : List Go.Field) (off : Nat) {α : Type} (enc : α → List AV) (ok : α → Prop) : Prop :=
  ∀ (W : World) (H : Type) (eh : TypeId × Value → H) (fuel : Nat) (cs : List Value) (xs : List (DataW H × List MemPlace)), fs.mapM (fun f => DataW.trod eh P W 0 (fun _ => true) true fuel f.type ((cs.drop f.offset).take (P.cellsOf f.type))) = some xs → (∀ n ∈ DataW.weightsEach P (fs.map (·.type)) (xs.map (·.1)), n ≤ reachBytes) →
    ∃ a : α, ok a ∧ (enc a).length = (fs.map fun f => P.cellsOf f.type).sum ∧ (off + (fs.map fun f => P.cellsOf f.type).sum ≤ cs.length → RVl (fun b => b < W.heap.size) W (enc a) ((cs.drop off).take (fs.map fun f => P.cellsOf f.type).sum))
theorem RdF.nil {off : Nat} : RdF P [] off (fun _ : Unit => []) (fun _ => True) := by
  intro W H eh fuel cs xs h _
  exact ⟨(), trivial, rfl, fun _ => by simpa using RVl.nil⟩
theorem RdF.cons {f : Go.Field} {fs : List Go.Field} {off k : Nat} {α β : Type} {e1 : α → List AV} {o1 : α → Prop} {e2 : β → List AV} {o2 : β → Prop} (ho : f.offset = off) (h1 : Rd P f.type e1 o1) (hl : ∀ a, (e1 a).length = k) (hk : P.cellsOf f.type = k) (h2 : RdF P fs (off + k) e2 o2) :
    RdF P (f :: fs) off (fun p : α × β => e1 p.1 ++ e2 p.2) (fun p => o1 p.1 ∧ o2 p.2) := by
  intro W H eh fuel cs xs h hwt
  rw [List.mapM_cons] at h
  cases ha : DataW.trod eh P W 0 (fun _ => true) true fuel f.type ((cs.drop f.offset).take (P.cellsOf f.type)) with
  | none => rw [ha] at h; simp at h
  | some b =>
    rw [ha] at h
    cases hm : fs.mapM (fun f => DataW.trod eh P W 0 (fun _ => true) true fuel f.type ((cs.drop f.offset).take (P.cellsOf f.type))) with
    | none => rw [hm] at h; simp at h
    | some bs =>
      rw [hm] at h
      simp at h
      subst h
      simp only [List.map_cons, DataW.weightsEach] at hwt
      obtain ⟨a, a1, a2⟩ := h1 W H eh fuel _ _ ha (fun n hn => hwt n (List.mem_append.2 (.inl hn)))
      obtain ⟨c, c1, c2, c3⟩ := h2 W H eh fuel cs bs hm (fun n hn => hwt n (List.mem_append.2 (.inr hn)))
      refine ⟨(a, c), ⟨a1, c1⟩, by simp [hl, c2, hk], fun hle => ?_⟩
      simp only [List.map_cons, List.sum_cons, hk] at hle ⊢
      rw [ho, hk] at a2
      have := c3 (by omega)
      have e : (cs.drop off).take (k + (fs.map fun f => P.cellsOf f.type).sum) = (cs.drop off).take k ++ (cs.drop (off + k)).take (fs.map fun f => P.cellsOf f.type).sum := by
        rw [List.take_add, List.drop_drop]
      rw [e]
      exact a2.append this
theorem Rd.struct {t : TypeId} {fs : Array Go.Field} {α : Type} {enc : α → List AV} {ok : α → Prop} (hu : P.underlying t = some (.struct fs)) (hs : (fs.toList.map fun f => P.cellsOf f.type).sum = P.cellsOf t) (h : RdF P fs.toList 0 enc ok) : Rd P t enc ok := by
  intro W H eh fuel cs x hx hwt
  cases fuel with
  | zero => simp [DataW.trod] at hx
  | succ fuel =>
    unfold DataW.trod at hx
    rw [hu] at hx
    dsimp only at hx
    split at hx
    case isFalse => cases hx
    rename_i hc
    simp only [Option.map_eq_some_iff] at hx
    obtain ⟨xs, hx, hxe⟩ := hx
    subst hxe
    obtain ⟨a, a1, a2, a3⟩ := h W H eh fuel _ xs hx (by
      intro n hn
      refine hwt n ?_
      have : (DataW.agg (xs.map (·.1))).weights P t = DataW.weightsEach P (fs.toList.map (·.type)) (xs.map (·.1)) := by rw [DataW.weights, hu]
      rw [this]; exact hn)
    refine ⟨a, a1, ?_⟩
    have := a3 (by omega)
    rw [List.drop_zero, List.take_of_length_le (by omega)] at this
    exact this
end
end Go.AM

/- How the data that comes in reads. (Printed by argsgen.py.) -/
namespace Go.AM.B
open Go.Proofs
noncomputable section
set_option linter.unusedVariables false
def encU8 (n : Int) : List AV := [.int .u8 n]
theorem rd_int : Rd Try.prog 3 (fun n : Int => [.int .i64 n]) (litOk .i64) := Rd.int Try.underlying3
theorem rd_uint32 : Rd Try.prog 115 (fun n : Int => [.int .u32 n]) (litOk .u32) := Rd.int Try.underlying115
def Arm.ok (a : Arm) : Prop := litOk .u32 a.value ∧ litOk .i64 a.next
theorem rd_Arm : Rd Try.prog 117 Arm.enc Arm.ok := by
  have h := Rd.struct (P := Try.prog) Try.underlying117 (by kernel_rfl) (RdF.cons (k := 1) rfl rd_uint32 (fun _ => rfl) (by kernel_rfl) (RdF.cons (k := 1) rfl rd_int (fun _ => rfl) (by kernel_rfl) .nil))
  exact h.map (fun p => (match p with | ⟨value, next, _⟩ => ⟨value, next⟩ : Arm)) (fun _ => rfl) (fun _ h => ⟨h.1, h.2.1⟩)
theorem rd_s_Arm : Rd Try.prog 40 (fun s : Sl Arm => [s.av 2 Arm.enc]) (fun s => (∀ a ∈ s.l, Arm.ok a) ∧ s.l.length ≤ reachBytes) :=
  (Rd.slice Try.underlying40 (k := 2) (by kernel_rfl) (by decide) (by kernel_rfl) rd_Arm (fun _ => rfl)).map (fun s => ⟨s.1, s.2.1, s.2.2⟩) (fun _ => rfl) (fun _ h => h)
def Node.ok (x : Node) : Prop := (∀ a ∈ x.arms.l, Arm.ok a) ∧ x.arms.l.length ≤ reachBytes
theorem rd_Node : Rd Try.prog 42 Node.enc Node.ok := by
  have h := Rd.struct (P := Try.prog) Try.underlying42 (by kernel_rfl) (RdF.cons (k := 1) rfl rd_int (fun _ => rfl) (by kernel_rfl) (RdF.cons (k := 1) rfl rd_int (fun _ => rfl) (by kernel_rfl) (RdF.cons (k := 1) rfl rd_int (fun _ => rfl) (by kernel_rfl) (RdF.cons (k := 1) rfl rd_int (fun _ => rfl) (by kernel_rfl) (RdF.cons (k := 1) rfl rd_int (fun _ => rfl) (by kernel_rfl) (RdF.cons (k := 1) rfl rd_int (fun _ => rfl) (by kernel_rfl) (RdF.cons (k := 1) rfl rd_int (fun _ => rfl) (by kernel_rfl) (RdF.cons (k := 1) rfl rd_s_Arm (fun _ => rfl) (by kernel_rfl) (RdF.cons (k := 1) rfl rd_int (fun _ => rfl) (by kernel_rfl) .nil)))))))))
  exact h.map (fun p => (match p with | ⟨id, size, lenOff, lenWidth, lenUnit, selOff, selWidth, arms, other, _⟩ => ⟨id, size, lenOff, lenWidth, lenUnit, selOff, selWidth, arms, other⟩ : Node)) (fun _ => rfl) (fun _ h => h.2.2.2.2.2.2.2.1)
theorem rd_s_Node : Rd Try.prog 22 (fun s : Sl Node => [s.av 9 Node.enc]) (fun s => (∀ a ∈ s.l, Node.ok a) ∧ s.l.length ≤ reachBytes) :=
  (Rd.slice Try.underlying22 (k := 9) (by kernel_rfl) (by decide) (by kernel_rfl) rd_Node (fun _ => rfl)).map (fun s => ⟨s.1, s.2.1, s.2.2⟩) (fun _ => rfl) (fun _ h => h)
theorem rd_uint8 : Rd Try.prog 5 (fun n : Int => [.int .u8 n]) (litOk .u8) := Rd.int Try.underlying5
def Field.ok (_ : Field) : Prop := True
theorem rd_Field : Rd Try.prog 137 Field.enc Field.ok := by
  have h := Rd.struct (P := Try.prog) Try.underlying137 (by kernel_rfl) (RdF.cons (k := 1) rfl rd_int (fun _ => rfl) (by kernel_rfl) (RdF.cons (k := 1) rfl rd_uint8 (fun _ => rfl) (by kernel_rfl) (RdF.cons (k := 1) rfl rd_int (fun _ => rfl) (by kernel_rfl) (RdF.cons (k := 1) rfl rd_int (fun _ => rfl) (by kernel_rfl) (RdF.cons (k := 1) rfl rd_int (fun _ => rfl) (by kernel_rfl) .nil)))))
  exact h.map (fun p => (match p with | ⟨id, base, node, off, width, _⟩ => ⟨id, base, node, off, width⟩ : Field)) (fun _ => rfl) (fun _ _ => trivial)
theorem rd_s_Field : Rd Try.prog 23 (fun s : Sl Field => [s.av 5 Field.enc]) (fun s => (∀ a ∈ s.l, Field.ok a) ∧ s.l.length ≤ reachBytes) :=
  (Rd.slice Try.underlying23 (k := 5) (by kernel_rfl) (by decide) (by kernel_rfl) rd_Field (fun _ => rfl)).map (fun s => ⟨s.1, s.2.1, s.2.2⟩) (fun _ => rfl) (fun _ h => h)
theorem rd_s_int : Rd Try.prog 30 (fun s : Sl Int => [s.av 1 encI]) (fun s => (∀ a ∈ s.l, (litOk .i64) a) ∧ s.l.length ≤ reachBytes) :=
  (Rd.slice Try.underlying30 (k := 1) (by kernel_rfl) (by decide) (by kernel_rfl) rd_int (fun _ => rfl)).map (fun s => ⟨s.1, s.2.1, s.2.2⟩) (fun _ => rfl) (fun _ h => h)
def Table.ok (_ : Table) : Prop := True
theorem rd_Table : Rd Try.prog 44 Table.enc Table.ok := by
  have h := Rd.struct (P := Try.prog) Try.underlying44 (by kernel_rfl) (RdF.cons (k := 1) rfl rd_int (fun _ => rfl) (by kernel_rfl) (RdF.cons (k := 1) rfl rd_uint8 (fun _ => rfl) (by kernel_rfl) (RdF.cons (k := 1) rfl rd_s_int (fun _ => rfl) (by kernel_rfl) (RdF.cons (k := 1) rfl rd_int (fun _ => rfl) (by kernel_rfl) (RdF.cons (k := 1) rfl rd_int (fun _ => rfl) (by kernel_rfl) .nil)))))
  exact h.map (fun p => (match p with | ⟨id, kind, keys, cap, miss, _⟩ => ⟨id, kind, keys, cap, miss⟩ : Table)) (fun _ => rfl) (fun _ _ => trivial)
theorem rd_s_Table : Rd Try.prog 24 (fun s : Sl Table => [s.av 5 Table.enc]) (fun s => (∀ a ∈ s.l, Table.ok a) ∧ s.l.length ≤ reachBytes) :=
  (Rd.slice Try.underlying24 (k := 5) (by kernel_rfl) (by decide) (by kernel_rfl) rd_Table (fun _ => rfl)).map (fun s => ⟨s.1, s.2.1, s.2.2⟩) (fun _ => rfl) (fun _ h => h)
theorem rd_string : Rd Try.prog 9 (fun b : ByteArray => [.str b]) (fun b => b.size ≤ maxLen) := Rd.str Try.underlying9
theorem rd_uint64 : Rd Try.prog 46 (fun n : Int => [.int .u64 n]) (litOk .u64) := Rd.int Try.underlying46
theorem rd_s_uint64 : Rd Try.prog 45 (fun s : Sl Int => [s.av 1 encU64]) (fun s => (∀ a ∈ s.l, (litOk .u64) a) ∧ s.l.length ≤ reachBytes) :=
  (Rd.slice Try.underlying45 (k := 1) (by kernel_rfl) (by decide) (by kernel_rfl) rd_uint64 (fun _ => rfl)).map (fun s => ⟨s.1, s.2.1, s.2.2⟩) (fun _ => rfl) (fun _ h => h)
theorem rd_int64 : Rd Try.prog 2 (fun n : Int => [.int .i64 n]) (litOk .i64) := Rd.int Try.underlying2
theorem rd_bool : Rd Try.prog 4 (fun b : Bool => [.bool b]) (fun _ => True) := Rd.bool Try.underlying4
def Entry.ok (_ : Entry) : Prop := True
theorem rd_Entry : Rd Try.prog 48 Entry.enc Entry.ok := by
  have h := Rd.struct (P := Try.prog) Try.underlying48 (by kernel_rfl) (RdF.cons (k := 1) rfl rd_int (fun _ => rfl) (by kernel_rfl) (RdF.cons (k := 1) rfl rd_string (fun _ => rfl) (by kernel_rfl) (RdF.cons (k := 1) rfl rd_string (fun _ => rfl) (by kernel_rfl) (RdF.cons (k := 1) rfl rd_int (fun _ => rfl) (by kernel_rfl) (RdF.cons (k := 1) rfl rd_int (fun _ => rfl) (by kernel_rfl) (RdF.cons (k := 1) rfl rd_int (fun _ => rfl) (by kernel_rfl) (RdF.cons (k := 1) rfl rd_s_uint64 (fun _ => rfl) (by kernel_rfl) (RdF.cons (k := 1) rfl rd_int64 (fun _ => rfl) (by kernel_rfl) (RdF.cons (k := 1) rfl rd_int64 (fun _ => rfl) (by kernel_rfl) (RdF.cons (k := 1) rfl rd_uint64 (fun _ => rfl) (by kernel_rfl) (RdF.cons (k := 1) rfl rd_bool (fun _ => rfl) (by kernel_rfl) .nil)))))))))))
  exact h.map (fun p => (match p with | ⟨table, key, other, len, prio, block, args, idle, hard, cookie, tell, _⟩ => ⟨table, key, other, len, prio, block, args, idle, hard, cookie, tell⟩ : Entry)) (fun _ => rfl) (fun _ _ => trivial)
theorem rd_s_Entry : Rd Try.prog 25 (fun s : Sl Entry => [s.av 11 Entry.enc]) (fun s => (∀ a ∈ s.l, Entry.ok a) ∧ s.l.length ≤ reachBytes) :=
  (Rd.slice Try.underlying25 (k := 11) (by kernel_rfl) (by decide) (by kernel_rfl) rd_Entry (fun _ => rfl)).map (fun s => ⟨s.1, s.2.1, s.2.2⟩) (fun _ => rfl) (fun _ h => h)
def Arg.enc (a : Int × Int) : List AV := [.int .u8 a.1, .int .u64 a.2]
def Arg.ok (a : Int × Int) : Prop := litOk .u8 a.1 ∧ litOk .u64 a.2
theorem rd_Arg : Rd Try.prog 62 Arg.enc Arg.ok := by
  have h := Rd.struct (P := Try.prog) Try.underlying62 (by kernel_rfl) (RdF.cons (k := 1) rfl rd_uint8 (fun _ => rfl) (by kernel_rfl) (RdF.cons (k := 1) rfl rd_uint64 (fun _ => rfl) (by kernel_rfl) .nil))
  exact h.map (fun p => (match p with | ⟨k, n, _⟩ => (k, n) : Int × Int)) (fun _ => rfl) (fun _ h => ⟨h.1, h.2.1⟩)
def Instr.ok (x : Instr) : Prop := litOk .u8 x.op ∧ litOk .i64 x.to ∧ litOk .u8 x.ak ∧ litOk .u64 x.an ∧ litOk .u8 x.bk ∧ litOk .u64 x.bn ∧ litOk .i64 x.n
theorem rd_Instr : Rd Try.prog 64 Instr.enc Instr.ok := by
  have h := Rd.struct (P := Try.prog) Try.underlying64 (by kernel_rfl) (RdF.cons (k := 1) rfl rd_uint8 (fun _ => rfl) (by kernel_rfl) (RdF.cons (k := 1) rfl rd_int (fun _ => rfl) (by kernel_rfl) (RdF.cons (k := 2) rfl rd_Arg (fun _ => rfl) (by kernel_rfl) (RdF.cons (k := 2) rfl rd_Arg (fun _ => rfl) (by kernel_rfl) (RdF.cons (k := 1) rfl rd_int (fun _ => rfl) (by kernel_rfl) .nil)))))
  exact h.map (fun p => (match p with | ⟨op, to, A, B, n, _⟩ => ⟨op, to, A.1, A.2, B.1, B.2, n⟩ : Instr)) (fun _ => rfl) (fun _ h => ⟨h.1, h.2.1, h.2.2.1.1, h.2.2.1.2, h.2.2.2.1.1, h.2.2.2.1.2, h.2.2.2.2.1⟩)
theorem rd_s_Instr : Rd Try.prog 49 (fun s : Sl Instr => [s.av 7 Instr.enc]) (fun s => (∀ a ∈ s.l, Instr.ok a) ∧ s.l.length ≤ reachBytes) :=
  (Rd.slice Try.underlying49 (k := 7) (by kernel_rfl) (by decide) (by kernel_rfl) rd_Instr (fun _ => rfl)).map (fun s => ⟨s.1, s.2.1, s.2.2⟩) (fun _ => rfl) (fun _ h => h)
def Block.ok (x : Block) : Prop := (∀ a ∈ x.code.l, Instr.ok a) ∧ x.code.l.length ≤ reachBytes
theorem rd_Block : Rd Try.prog 52 Block.enc Block.ok := by
  have h := Rd.struct (P := Try.prog) Try.underlying52 (by kernel_rfl) (RdF.cons (k := 1) rfl rd_int (fun _ => rfl) (by kernel_rfl) (RdF.cons (k := 1) rfl rd_s_Instr (fun _ => rfl) (by kernel_rfl) .nil))
  exact h.map (fun p => (match p with | ⟨id, code, _⟩ => ⟨id, code⟩ : Block)) (fun _ => rfl) (fun _ h => h.2.1)
theorem rd_s_Block : Rd Try.prog 26 (fun s : Sl Block => [s.av 2 Block.enc]) (fun s => (∀ a ∈ s.l, Block.ok a) ∧ s.l.length ≤ reachBytes) :=
  (Rd.slice Try.underlying26 (k := 2) (by kernel_rfl) (by decide) (by kernel_rfl) rd_Block (fun _ => rfl)).map (fun s => ⟨s.1, s.2.1, s.2.2⟩) (fun _ => rfl) (fun _ h => h)
def Bucket.ok (_ : Bucket) : Prop := True
theorem rd_Bucket : Rd Try.prog 71 Bucket.enc Bucket.ok := by
  have h := Rd.struct (P := Try.prog) Try.underlying71 (by kernel_rfl) (RdF.cons (k := 1) rfl rd_uint64 (fun _ => rfl) (by kernel_rfl) (RdF.cons (k := 1) rfl rd_int (fun _ => rfl) (by kernel_rfl) .nil))
  exact h.map (fun p => (match p with | ⟨weight, block, _⟩ => ⟨weight, block⟩ : Bucket)) (fun _ => rfl) (fun _ _ => trivial)
theorem rd_s_Bucket : Rd Try.prog 67 (fun s : Sl Bucket => [s.av 2 Bucket.enc]) (fun s => (∀ a ∈ s.l, Bucket.ok a) ∧ s.l.length ≤ reachBytes) :=
  (Rd.slice Try.underlying67 (k := 2) (by kernel_rfl) (by decide) (by kernel_rfl) rd_Bucket (fun _ => rfl)).map (fun s => ⟨s.1, s.2.1, s.2.2⟩) (fun _ => rfl) (fun _ h => h)
def Group.ok (x : Group) : Prop := x.buckets.l.length ≤ reachBytes
theorem rd_Group : Rd Try.prog 69 Group.enc Group.ok := by
  have h := Rd.struct (P := Try.prog) Try.underlying69 (by kernel_rfl) (RdF.cons (k := 1) rfl rd_int (fun _ => rfl) (by kernel_rfl) (RdF.cons (k := 1) rfl rd_uint8 (fun _ => rfl) (by kernel_rfl) (RdF.cons (k := 1) rfl rd_int (fun _ => rfl) (by kernel_rfl) (RdF.cons (k := 1) rfl rd_s_Bucket (fun _ => rfl) (by kernel_rfl) .nil))))
  exact h.map (fun p => (match p with | ⟨id, kind, field, buckets, _⟩ => ⟨id, kind, field, buckets⟩ : Group)) (fun _ => rfl) (fun _ h => h.2.2.2.1.2)
theorem rd_s_Group : Rd Try.prog 27 (fun s : Sl Group => [s.av 4 Group.enc]) (fun s => (∀ a ∈ s.l, Group.ok a) ∧ s.l.length ≤ reachBytes) :=
  (Rd.slice Try.underlying27 (k := 4) (by kernel_rfl) (by decide) (by kernel_rfl) rd_Group (fun _ => rfl)).map (fun s => ⟨s.1, s.2.1, s.2.2⟩) (fun _ => rfl) (fun _ h => h)
def Meter.ok (_ : Meter) : Prop := True
theorem rd_Meter : Rd Try.prog 139 Meter.enc Meter.ok := by
  have h := Rd.struct (P := Try.prog) Try.underlying139 (by kernel_rfl) (RdF.cons (k := 1) rfl rd_int (fun _ => rfl) (by kernel_rfl) (RdF.cons (k := 1) rfl rd_int64 (fun _ => rfl) (by kernel_rfl) (RdF.cons (k := 1) rfl rd_int64 (fun _ => rfl) (by kernel_rfl) .nil)))
  exact h.map (fun p => (match p with | ⟨id, rate, burst, _⟩ => ⟨id, rate, burst⟩ : Meter)) (fun _ => rfl) (fun _ _ => trivial)
theorem rd_s_Meter : Rd Try.prog 28 (fun s : Sl Meter => [s.av 3 Meter.enc]) (fun s => (∀ a ∈ s.l, Meter.ok a) ∧ s.l.length ≤ reachBytes) :=
  (Rd.slice Try.underlying28 (k := 3) (by kernel_rfl) (by decide) (by kernel_rfl) rd_Meter (fun _ => rfl)).map (fun s => ⟨s.1, s.2.1, s.2.2⟩) (fun _ => rfl) (fun _ h => h)
def Regs.ok (_ : Regs) : Prop := True
theorem rd_Regs : Rd Try.prog 141 Regs.enc Regs.ok := by
  have h := Rd.struct (P := Try.prog) Try.underlying141 (by kernel_rfl) (RdF.cons (k := 1) rfl rd_int (fun _ => rfl) (by kernel_rfl) (RdF.cons (k := 1) rfl rd_int (fun _ => rfl) (by kernel_rfl) .nil))
  exact h.map (fun p => (match p with | ⟨id, size, _⟩ => ⟨id, size⟩ : Regs)) (fun _ => rfl) (fun _ _ => trivial)
theorem rd_s_Regs : Rd Try.prog 29 (fun s : Sl Regs => [s.av 2 Regs.enc]) (fun s => (∀ a ∈ s.l, Regs.ok a) ∧ s.l.length ≤ reachBytes) :=
  (Rd.slice Try.underlying29 (k := 2) (by kernel_rfl) (by decide) (by kernel_rfl) rd_Regs (fun _ => rfl)).map (fun s => ⟨s.1, s.2.1, s.2.2⟩) (fun _ => rfl) (fun _ h => h)
def Config.ok (x : Config) : Prop := (∀ a ∈ x.nodes.l, Node.ok a) ∧ (∀ a ∈ x.blocks.l, Block.ok a) ∧ (∀ a ∈ x.groups.l, Group.ok a) ∧ x.nodes.l.length ≤ reachBytes ∧ x.tables.l.length ≤ reachBytes ∧ x.entries.l.length ≤ reachBytes ∧ x.blocks.l.length ≤ reachBytes ∧ x.groups.l.length ≤ reachBytes
theorem rd_Config : Rd Try.prog 32 Config.enc Config.ok := by
  have h := Rd.struct (P := Try.prog) Try.underlying32 (by kernel_rfl) (RdF.cons (k := 1) rfl rd_s_Node (fun _ => rfl) (by kernel_rfl) (RdF.cons (k := 1) rfl rd_s_Field (fun _ => rfl) (by kernel_rfl) (RdF.cons (k := 1) rfl rd_s_Table (fun _ => rfl) (by kernel_rfl) (RdF.cons (k := 1) rfl rd_s_Entry (fun _ => rfl) (by kernel_rfl) (RdF.cons (k := 1) rfl rd_s_Block (fun _ => rfl) (by kernel_rfl) (RdF.cons (k := 1) rfl rd_s_Group (fun _ => rfl) (by kernel_rfl) (RdF.cons (k := 1) rfl rd_s_Meter (fun _ => rfl) (by kernel_rfl) (RdF.cons (k := 1) rfl rd_s_Regs (fun _ => rfl) (by kernel_rfl) (RdF.cons (k := 1) rfl rd_s_int (fun _ => rfl) (by kernel_rfl) .nil)))))))))
  exact h.map (fun p => (match p with | ⟨nodes, fields, tables, entries, blocks, groups, meters, regs, counters, _⟩ => ⟨nodes, fields, tables, entries, blocks, groups, meters, regs, counters⟩ : Config)) (fun _ => rfl) (fun _ h => ⟨h.1.1, h.2.2.2.2.1.1, h.2.2.2.2.2.1.1, h.1.2, h.2.2.1.2, h.2.2.2.1.2, h.2.2.2.2.1.2, h.2.2.2.2.2.1.2⟩)
theorem rd_s_uint8 : Rd Try.prog 55 (fun s : Sl Int => [s.av 1 encU8]) (fun s => (∀ a ∈ s.l, (litOk .u8) a) ∧ s.l.length ≤ reachBytes) :=
  (Rd.slice Try.underlying55 (k := 1) (by kernel_rfl) (by decide) (by kernel_rfl) rd_uint8 (fun _ => rfl)).map (fun s => ⟨s.1, s.2.1, s.2.2⟩) (fun _ => rfl) (fun _ h => h)
end
end Go.AM.B

/- AM: an append of a frozen slice; footprints told too wide. -/
namespace Go.AM
set_option linter.unusedVariables false
set_option linter.unusedSimpArgs false

variable {E : Env} {H : Heap}

def FSub (f g : Foot) : Prop := (∀ k ∈ f.1, k ∈ g.1) ∧ ∀ k ∈ f.2, k ∈ g.2
theorem FSub.refl (f : Foot) : FSub f f := ⟨fun _ h => h, fun _ h => h⟩
inductive Wider : List (Nat × Foot) → List (Nat × Foot) → Prop
  | nil : Wider [] []
  | cons {i f g l m} : FSub f g → Wider l m → Wider ((i, f) :: l) ((i, g) :: m)
theorem Wider.refl : ∀ l, Wider l l
  | [] => .nil
  | (i, f) :: l => .cons (.refl f) (Wider.refl l)
theorem meets_mono {xs xs' ys ys' : List Key} (h1 : ∀ k ∈ xs, k ∈ xs') (h2 : ∀ k ∈ ys, k ∈ ys') (h : meets xs' ys' = false) : meets xs ys = false := by
  unfold meets at h ⊢
  rw [List.any_eq_false] at h ⊢
  intro x hx
  have := h x (h1 x hx)
  simp only [Bool.not_eq_true] at this ⊢
  rw [List.any_eq_false] at this ⊢
  exact fun y hy => this y (h2 y hy)
theorem clash_mono {f f' g g' : Foot} (h1 : FSub f f') (h2 : FSub g g') (h : clash f' g' = false) : clash f g = false := by
  unfold clash at h ⊢
  simp only [Bool.or_eq_false_iff] at h ⊢
  exact ⟨⟨meets_mono h1.2 h2.1 h.1.1, meets_mono h1.2 h2.2 h.1.2⟩, meets_mono h1.1 h2.2 h.2⟩
theorem clashes_mono {un : List (Nat × Nat)} {j : Nat} {f f' : Foot} (hf : FSub f f') {log log' : List (Nat × Foot)} (hl : Wider log log') : clashes un j f' log' = false → clashes un j f log = false := by
  induction hl with
  | nil => exact fun _ => rfl
  | cons h1 h2 ih =>
    intro h
    simp only [clashes, Bool.or_eq_false_iff, Bool.and_eq_false_iff] at h ⊢
    exact ⟨h.1.imp_right fun h => clash_mono h1 hf h, ih h.2⟩
theorem led_mono {o : VO} {log log' : List (Nat × Foot)} (hl : Wider log log') : led o log' = false → led o log = false := by
  unfold led
  cases o.op.own with
  | false => exact fun _ => rfl
  | true =>
    cases o.dst with
    | none => exact fun _ => rfl
    | some d =>
      dsimp only
      induction hl with
      | nil => exact fun _ => rfl
      | @cons i f g l m h1 h2 ih =>
        intro h
        rw [List.any_cons, Bool.or_eq_false_iff] at h ⊢
        refine ⟨?_, ih h.2⟩
        have := h.1
        dsimp only at this ⊢
        rw [List.any_eq_false] at this ⊢
        exact fun k hk => this k (h1.1 k hk)
theorem runD_wide {call : CallF} {nr : Nat} {un : List (Nat × Nat)} {e0 : Env} : ∀ (l : List VO) (i : Nat) (log log' : List (Nat × Foot)) (s s' : St), Wider log log' → runD call nr un e0 i log' l s = some s' → runD call nr un e0 i log l s = some s' := by
  intro l
  induction l with
  | nil => intro i log log' s s' _ h; exact h
  | cons o l ih =>
    intro i log log' s s' hw h
    simp only [runD] at h ⊢
    cases hs : step1 call (nr, i) o s with
    | none => rw [hs] at h; cases h
    | some p =>
      obtain ⟨s1, f⟩ := p
      rw [hs] at h
      dsimp only at h ⊢
      cases hc : (clashes un i f log' || !startOk e0 o || led o log') with
      | true => rw [hc] at h; cases h
      | false =>
        rw [hc, cond_false] at h
        simp only [Bool.or_eq_false_iff] at hc
        have : (clashes un i f log || !startOk e0 o || led o log) = false := by
          simp only [Bool.or_eq_false_iff]
          exact ⟨⟨clashes_mono (.refl f) hw hc.1.1, hc.1.2⟩, led_mono hw hc.2⟩
        rw [this, cond_false]
        exact ih _ _ _ _ _ (.cons (.refl f) hw) h
/-- A step whose footprint is told too wide. -/
theorem WL.stepW {T : FuncId → Option VFun} {nr i : Nat} {dr : DR} {o : VO} {l : List VO} {s s1 : St} {K : St → Prop} {ft F : Foot} (h1 : Ev fun j => step1 (callT T j) (nr, i) o s = some (s1, ft)) (hs : FSub ft F) (hc : okR dr i F o = true)
    (R : WL T nr (logR dr i F) (i + 1) l s1 K) : WL T nr dr i (o :: l) s K := by
  match dr, hc, R with
  | none, _, R => exact WL.step h1 rfl R
  | some (un, e0, log), hc, R =>
    refine WL.step h1 ?_ ?_
    · simp only [okR, Bool.not_eq_true', Bool.or_eq_false_iff] at hc ⊢
      exact ⟨⟨clashes_mono hs (.refl _) hc.1.1, hc.1.2⟩, hc.2⟩
    · obtain ⟨s2, h2, h3⟩ := R
      exact ⟨s2, h2.mono fun j hj => runD_wide _ _ _ _ _ _ (.cons hs (.refl _)) hj, h3⟩
theorem sub_len {cs l : List AV} {off k : Nat} (h : sub cs off k = some l) : l.length = k := by
  unfold sub at h
  cases hb : Nat.ble (off + k) cs.length with
  | false => rw [hb] at h; cases h
  | true =>
    rw [hb] at h
    have := Nat.le_of_ble_eq_true hb
    simp only [cond_true, Option.some.injEq] at h
    rw [← h]; simp; omega
theorem sub_in {cs : List AV} {off k : Nat} (h : off + k ≤ cs.length) : sub cs off k = some ((cs.drop off).take k) := by
  unfold sub
  rw [Nat.ble_eq_true_of_le h]; rfl
theorem flat_drop {α : Type} {enc : α → List AV} {k : Nat} (he : ∀ x, (enc x).length = k) : ∀ (l : List α) (i : Nat), (l.flatMap enc).drop (i * k) = (l.drop i).flatMap enc := by
  intro l
  induction l with
  | nil => intro i; simp
  | cons a l ih =>
    intro i
    cases i with
    | zero => simp
    | succ i =>
      rw [List.flatMap_cons, List.drop_succ_cons, ← ih i, List.drop_append, he, List.drop_of_length_le (by rw [he, Nat.add_mul]; omega), List.nil_append]
      congr 1
      rw [Nat.add_mul]; omega
theorem flat_take {α : Type} {enc : α → List AV} {k : Nat} (he : ∀ x, (enc x).length = k) : ∀ (l : List α) (i : Nat), (l.flatMap enc).take (i * k) = (l.take i).flatMap enc := by
  intro l
  induction l with
  | nil => intro i; simp
  | cons a l ih =>
    intro i
    cases i with
    | zero => simp
    | succ i =>
      rw [List.flatMap_cons, List.take_succ_cons, List.flatMap_cons, ← ih i, List.take_append, he, List.take_of_length_le (by rw [he, Nat.add_mul]; omega)]
      congr 2
      rw [Nat.add_mul]; omega
/-- A piece of a frozen slice. -/
theorem aop_slc_p {E : Env} {H : Heap} {nid : Id} {d : Option Nat} {α : Type} {enc : α → List AV} {k e l h : Nat} {clip : Bool} {L : List α} {x : Operand} {lo hi : Option Operand} (he : ∀ x, (enc x).length = k) (hx : evA E x = some (.pslice (L.flatMap enc) L.length e clip))
    (hb : slcBounds E L.length lo hi none = some (l, h, none)) (hlh : l ≤ h) (hh : h ≤ L.length) :
    ∃ raw c', aop E H nid d (.slc (some k) x lo hi none) = some ⟨.v (.pslice raw (h - l) k c'), none, [], none, [], []⟩ ∧ sub raw 0 ((h - l) * k) = some (((L.drop l).take (h - l)).flatMap enc) := by
  by_cases hn : h = l
  · subst hn
    refine ⟨[], clipOf none clip h L.length, ?_, ?_⟩
    · simp only [aop, hx, slcOf, hb, piece, beq_self_eq_true, cond_true, Nat.sub_self]
    · rw [Nat.sub_self, Nat.zero_mul, List.take_zero]; rfl
  · have hn' : (h == l) = false := by simpa using hn
    refine ⟨(L.flatMap enc).drop (l * k), clipOf none clip h L.length, ?_, ?_⟩
    · simp only [aop, hx, slcOf, hb, piece, hn', cond_false]
    · rw [flat_drop he, sub_in, List.drop_zero, flat_take he]
      rw [flat_len he, List.length_drop, Nat.zero_add]
      exact Nat.mul_le_mul_right _ (by omega)
theorem WL.slcP {T : FuncId → Option VFun} {nr i dd : Nat} {dr : DR} {g : Option (Nat × Bool)} {md : Mode} {ops : List VO} {E : Env} {H : Heap} {N : Nat} {K : St → Prop} {α : Type} {enc : α → List AV} {k e l h : Nat} {clip : Bool} {L : List α} {x : Operand} {lo hi : Option Operand}
    (he : ∀ x, (enc x).length = k) (hg : wantedA E g = some true) (hx : evA E x = some (.pslice (L.flatMap enc) L.length e clip)) (hb : slcBounds E L.length lo hi none = some (l, h, none)) (hlh : l ≤ h) (hh : h ≤ L.length)
    (hc : okR dr i ([], []) ⟨some dd, g, .slc (some k) x lo hi none, md⟩ = true)
    (R : ∀ raw c', sub raw 0 ((h - l) * k) = some (((L.drop l).take (h - l)).flatMap enc) → WL T nr (logR dr i ([], [])) (i + 1) ops ⟨E.put dd (.v (.pslice raw (h - l) k c')), H, N⟩ K) :
    WL T nr dr i (⟨some dd, g, .slc (some k) x lo hi none, md⟩ :: ops) ⟨E, H, N⟩ K := by
  obtain ⟨raw, c', h1, h2⟩ := aop_slc_p (H := H) (nid := (nr, i)) (d := some dd) he hx hb hlh hh
  exact WL.val hg h1 hc (R raw c' h2)
/-- The rest of a frozen slice. -/
theorem WL.slcLo {T : FuncId → Option VFun} {nr i dd : Nat} {dr : DR} {g : Option (Nat × Bool)} {md : Mode} {ops : List VO} {E : Env} {H : Heap} {N : Nat} {K : St → Prop} {α : Type} {enc : α → List AV} {k e l : Nat} {clip : Bool} {L : List α} {x : Operand} {lo : Option Operand}
    (he : ∀ x, (enc x).length = k) (hg : wantedA E g = some true) (hx : evA E x = some (.pslice (L.flatMap enc) L.length e clip)) (hb : slcBounds E L.length lo none none = some (l, L.length, none)) (hlh : l ≤ L.length)
    (hc : okR dr i ([], []) ⟨some dd, g, .slc (some k) x lo none none, md⟩ = true)
    (R : ∀ c', WL T nr (logR dr i ([], [])) (i + 1) ops ⟨E.put dd (.v (.pslice ((L.drop l).flatMap enc) (L.drop l).length k c')), H, N⟩ K) :
    WL T nr dr i (⟨some dd, g, .slc (some k) x lo none none, md⟩ :: ops) ⟨E, H, N⟩ K := by
  have : ∃ c', aop E H (nr, i) (some dd) (.slc (some k) x lo none none) = some ⟨.v (.pslice ((L.drop l).flatMap enc) (L.drop l).length k c'), none, [], none, [], []⟩ := by
    refine ⟨clipOf none clip L.length L.length, ?_⟩
    by_cases hn : L.length = l
    · have hn' : (L.length == l) = true := by simpa using hn
      have hd : L.drop l = [] := List.drop_eq_nil_of_le (by omega)
      simp only [aop, hx, slcOf, hb, piece, hn', cond_true, hd]; rfl
    · have hn' : (L.length == l) = false := by simpa using hn
      simp only [aop, hx, slcOf, hb, piece, hn', cond_false, List.length_drop, flat_drop he]
  obtain ⟨c', h1⟩ := this
  exact WL.val hg h1 hc (R c')
theorem slcB_hi {E : Env} {x : Operand} {len n : Nat} {k : IntKind} {z : Int} (hx : evA E x = some (.int k z)) (hz : z = n) (hn : n ≤ len) : slcBounds E len none (some x) none = some (0, n, none) := by
  subst hz
  have : (decide ((0 : Int) ≤ (n : Int)) && decide ((n : Int) ≤ (len : Int))) = true := by simp; omega
  simp only [slcBounds, bnd, hx, Option.getD_none, Option.getD_some, this, cond_true, Option.isSome_none, Bool.false_and, cond_false, Int.toNat_natCast]
theorem slcB_lo {E : Env} {x : Operand} {len n : Nat} {k : IntKind} {z : Int} (hx : evA E x = some (.int k z)) (hz : z = n) (hn : n ≤ len) : slcBounds E len (some x) none none = some (n, len, none) := by
  subst hz
  have : (decide ((0 : Int) ≤ (n : Int)) && decide ((n : Int) ≤ (len : Int))) = true := by simp; omega
  simp only [slcBounds, bnd, hx, Option.getD_none, Option.getD_some, this, cond_true, Option.isSome_none, Bool.false_and, cond_false, Int.toNat_natCast]
theorem aop_rem {E : Env} {H : Heap} {nid : Id} {d : Option Nat} {x y : Operand} {k : IntKind} {a b : Int} (hx : evA E x = some (.int k a)) (hy : evA E y = some (.int k b)) (hb : b ≠ 0) :
    aop E H nid d (.bin .rem x y) = some ⟨.v (.int k (a.tmod b)), none, [], none, [], []⟩ := by
  have h1 : (b == 0) = false := by simpa using hb
  have h2 : (k == k) = true := by cases k <;> rfl
  simp only [aop, hx, hy, binop, h2, cond_true, binInt, h1, cond_false]
theorem wrapu {n : Int} (h1 : 0 ≤ n) (h2 : n < 18446744073709551616) : IntKind.wrap .u64 n = n := by
  simp only [IntKind.wrap, IntKind.bits, IntKind.signed, Bool.false_and, Bool.false_eq_true, if_false]
  omega
/-- A place in a list, out of any number. -/
theorem idx_rem (i : Int) {len : Nat} (h0 : 0 < len) (hl : len < 140737488355328) : ∃ k : Nat, k < len ∧ IntKind.wrap .i64 ((IntKind.wrap .u64 i).tmod (IntKind.wrap .u64 (len : Int))) = (k : Int) ∧ IntKind.wrap .u64 (len : Int) ≠ 0 := by
  have e : IntKind.wrap .u64 (len : Int) = len := wrapu (by omega) (by omega)
  have hn : 0 ≤ IntKind.wrap .u64 i := by
    simp only [IntKind.wrap, IntKind.bits, IntKind.signed, Bool.false_and, Bool.false_eq_true, if_false]
    omega
  rw [e]
  have h1 := Int.tmod_nonneg (len : Int) hn
  have h2 := Int.tmod_lt_of_pos (IntKind.wrap .u64 i) (b := (len : Int)) (by omega)
  generalize (IntKind.wrap .u64 i).tmod (len : Int) = z at h1 h2
  exact ⟨z.toNat, by omega, by rw [wrap64 (by omega) (by omega)]; omega, by omega⟩
/-- What a cell freezes to: a nil slice as an empty one. -/
def fz : AV → AV
  | .nils => .pslice [] 0 0 true
  | a => a
theorem mapO_fz (k : Nat) (h : Heap) : ∀ l : List AV, (∀ a ∈ l, AM.pur k h a = some (fz a)) → mapO (AM.pur k h) l = some (l.map fz) := by
  intro l
  induction l with
  | nil => intro _; rfl
  | cons a l ih =>
    intro hl
    simp only [mapO, hl a (by simp), ih fun b hb => hl b (by simp [hb]), List.map_cons]
theorem pur_sliceF {k : Nat} {h : Heap} {o : Id} {len esz : Nat} {clip : Bool} {cs : List AV} (hg : h.get o = some (.cells cs)) (hl : cs.length = len * esz) (hp : ∀ a ∈ cs, AM.pur k h a = some (fz a)) :
    AM.pur (k + 1) h (.slice o 0 len esz clip) = some (.pslice (cs.map fz) len esz clip) := by
  simp only [AM.pur, hg, sub_all cs _ hl, mapO_fz k h cs hp]
theorem map_flat {α : Type} {enc enc' : α → List AV} (h : ∀ x, (enc x).map fz = enc' x) (l : List α) : (l.flatMap enc).map fz = l.flatMap enc' := by
  induction l with
  | nil => rfl
  | cons a l ih => rw [List.flatMap_cons, List.map_append, h, ih, List.flatMap_cons]
/-- One element written over. -/
theorem upd_flat {α : Type} {enc : α → List AV} {k : Nat} (he : ∀ x, (enc x).length = k) (l : List α) {i : Nat} (hi : i < l.length) {xs : List AV} (hx : xs.length = k) : upd (l.flatMap enc) (i * k) xs = some ((l.take i).flatMap enc ++ xs ++ (l.drop (i + 1)).flatMap enc) := by
  have hle : i * k + xs.length ≤ (l.flatMap enc).length := by
    rw [flat_len he, hx, ← Nat.succ_mul]
    exact Nat.mul_le_mul_right _ hi
  unfold upd
  rw [Nat.ble_eq_true_of_le hle, cond_true, flat_take he, hx, ← Nat.succ_mul, flat_drop he]
theorem set_split {α : Type} (l : List α) {i : Nat} (hi : i < l.length) (a : α) : l.set i a = l.take i ++ [a] ++ l.drop (i + 1) := by
  rw [List.set_eq_take_append_cons_drop, if_pos hi]; simp
/-- Append of a frozen slice to the function's own. -/
theorem WL.appP {T : FuncId → Option VFun} {nr i dd : Nat} {dr : DR} {g : Option (Nat × Bool)} {esz bytes len n t u e : Nat} {md : Mode} {l : List VO} {N : Nat} {K : St → Prop} {cs raw new : List AV} {o : Id} {clip kk : Bool} (os : List Id)
    (hg : wantedA E g = some true) (hs : evA E (.tmp t) = some (.slice o 0 len esz clip)) (hb : evA E (.tmp u) = some (.pslice raw n e kk)) (hgo : H.get o = some (.cells cs)) (hcl : cs.length = len * esz) (hsb : sub raw 0 (n * esz) = some new) (ho : ones new = true)
    (hz : (len + n) * bytes ≤ 140737488355328) (hos : o ∈ os)
    (hc : okR dr i (os.map .obj, .obj (nr, i) :: os.map .obj) ⟨some dd, g, .append esz bytes (.tmp t) (.tmp u), md⟩ = true)
    (R : ∀ o' clip' H', H'.get o' = some (.cells (cs ++ new)) → o' ∈ (nr, i) :: os → (∀ j, j ∉ os → j ≠ (nr, i) → H'.get j = H.get j) →
      WL T nr (logR dr i (os.map .obj, .obj (nr, i) :: os.map .obj)) (i + 1) l ⟨E.put dd (.v (.slice o' 0 (len + n) esz clip')), H', N⟩ K) :
    WL T nr dr i (⟨some dd, g, .append esz bytes (.tmp t) (.tmp u), md⟩ :: l) ⟨E, H, N⟩ K := by
  have hx : elems esz H (.pslice raw n e kk) = some (new, n, []) := by simp only [elems, hsb]
  have hl : new.length = n * esz := sub_len hsb
  have mo : (Key.obj o) ∈ os.map Key.obj := List.mem_map.2 ⟨o, hos, rfl⟩
  by_cases hn : n = 0
  · subst hn
    have hnew : new = [] := List.eq_nil_of_length_eq_zero (by simpa using hl)
    subst hnew
    have e : aop E H (nr, i) (some dd) (.append esz bytes (.tmp t) (.tmp u)) = some ⟨.v (.slice o 0 len esz clip), none, [], none, [], []⟩ := by
      simp only [aop, hs, hb, hx, appendTo, beq_self_eq_true, cond_true, AV.isSl]
    refine WL.stepW (Ev.of fun j => step1_aop hg e) ⟨fun k h => (by cases h), fun k h => (by cases h)⟩ hc ?_
    exact R o clip H (by rw [List.append_nil]; exact hgo) (List.mem_cons_of_mem _ hos) (fun _ _ _ => rfl)
  have hn0 : (n == 0) = false := by simp; exact hn
  have hcond : (!(ones new) || !(new.length == n * esz)) = false := by rw [ho, hl]; simp
  have hb2 : Nat.ble ((len + n) * bytes) 140737488355328 = true := Nat.ble_eq_true_of_le hz
  cases clip with
  | false =>
    have hcs : ((0 : Nat) == 0 && cs.length == len * esz) = true := by rw [hcl]; simp
    have e : aop E H (nr, i) (some dd) (.append esz bytes (.tmp t) (.tmp u)) = some ⟨.v (.slice (nr, i) 0 (len + n) esz false), none, [((nr, i), .cells (cs ++ new))], some o, [.obj o], [.obj (nr, i), .obj o]⟩ := by
      simp only [aop, hs, hb, hx, appendTo, hn0, cond_false, hcond, beq_self_eq_true, Bool.true_and, hb2, cond_true, hgo, hcs]
      rw [hcl]; simp
    refine WL.stepW (Ev.of fun j => step1_aop hg e) ⟨fun k h => ?_, fun k h => ?_⟩ hc (R (nr, i) false ((H.del o).put (nr, i) (.cells (cs ++ new))) (by rw [Heap.get_put, if_pos rfl]) (List.mem_cons_self) ?_)
    · simp only [List.mem_singleton] at h; rw [h]; exact mo
    · simp only [List.mem_cons, List.not_mem_nil, or_false] at h
      rcases h with rfl | rfl
      · exact List.mem_cons_self
      · exact List.mem_cons_of_mem _ mo
    · intro j hjo hj
      rw [Heap.get_put, if_neg hj, Heap.get_del, if_neg (fun h => hjo (by rw [h]; exact hos))]
  | true =>
    have e : aop E H (nr, i) (some dd) (.append esz bytes (.tmp t) (.tmp u)) = some ⟨.v (.slice (nr, i) 0 (len + n) esz false), none, [((nr, i), .cells (cs ++ new))], none, [.obj o], [.obj (nr, i)]⟩ := by
      simp only [aop, hs, hb, hx, appendTo, hn0, cond_false, hcond, beq_self_eq_true, Bool.true_and, hb2, cond_true, hgo, sub_all cs (len * esz) hcl]
    refine WL.stepW (Ev.of fun j => step1_aop hg e) ⟨fun k h => ?_, fun k h => ?_⟩ hc (R (nr, i) false (H.put (nr, i) (.cells (cs ++ new))) (by rw [Heap.get_put, if_pos rfl]) (List.mem_cons_self) ?_)
    · simp only [List.mem_singleton] at h; rw [h]; exact mo
    · simp only [List.mem_singleton] at h
      rw [h]; exact List.mem_cons_self
    · intro j hjo hj
      rw [Heap.get_put, if_neg hj]
theorem ones_flat {α : Type} {enc : α → List AV} (h : ∀ x, ones (enc x) = true) : ∀ l : List α, ones (l.flatMap enc) = true := by
  have app : ∀ a b : List AV, ones a = true → ones b = true → ones (a ++ b) = true := by
    intro a
    induction a with
    | nil => intro b _ h; exact h
    | cons x a ih =>
      intro b h1 h2
      simp only [ones, Bool.and_eq_true, List.cons_append] at h1 ⊢
      exact ⟨h1.1, ih b h1.2 h2⟩
  intro l
  induction l with
  | nil => rfl
  | cons x l ih => rw [List.flatMap_cons]; exact app _ _ (h x) ih
/-- A slice of one's own, all of whose cells are frozen, as it freezes. -/
theorem pur_slice {k : Nat} {h : Heap} {o : Id} {len esz : Nat} {clip : Bool} {cs : List AV} (hg : h.get o = some (.cells cs)) (hl : cs.length = len * esz) (hp : ∀ a ∈ cs, AM.pur k h a = some a) :
    AM.pur (k + 1) h (.slice o 0 len esz clip) = some (.pslice cs len esz clip) := by
  simp only [AM.pur, hg, sub_all cs _ hl, pur_scal_all k h cs hp]
theorem pur_agg {k : Nat} {h : Heap} {cs ds : List AV} (hp : mapO (AM.pur k h) cs = some ds) : AM.pur (k + 1) h (.agg cs) = some (.agg ds) := by
  simp only [AM.pur, hp]
theorem mapO_cons {f : AV → Option AV} {a b : AV} {l m : List AV} (h1 : f a = some b) (h2 : mapO f l = some m) : mapO f (a :: l) = some (b :: m) := by
  simp only [mapO, h1, h2]
/-- A call whose result is a slice of its own, by what that holds. -/
theorem WL.vfresh {nr i d len esz : Nat} {clip : Bool} {dr : DR} {g : Option (Nat × Bool)} {T : FuncId → Option VFun} {f : FuncId} {args : List Operand} {l : List VO} {E : Env} {H : Heap} {N : Nat} {K : St → Prop} {az az' cs : List AV} (hg : wantedA E g = some true) (ha : evAs E args = some az)
    (hp : mapO (pur purLimit H) az = some az') (C : CallsTo T f az' Heap.empty 0 fun r h' _ => ∃ o ds, r = .slice o 0 len esz clip ∧ h'.get o = some (.cells ds) ∧ mapO (pur purLimit (h'.del o)) ds = some cs) (hs : scals cs = true)
    (hc : okR dr i (flatK (purK purLimit H) az, [.obj (nr, i)]) ⟨some d, g, .call f args, .vfresh⟩ = true)
    (R : WL T nr (logR dr i (flatK (purK purLimit H) az, [.obj (nr, i)])) (i + 1) l ⟨E.put d (.v (.slice (nr, i) 0 len esz clip)), H.put (nr, i) (.cells cs), N⟩ K) : WL T nr dr i (⟨some d, g, .call f args, .vfresh⟩ :: l) ⟨E, H, N⟩ K := by
  obtain ⟨r, H', N', h1, o, ds, rfl, h2, h3⟩ := C
  refine WL.step (ft := (flatK (purK purLimit H) az, [.obj (nr, i)])) (h1.mono fun j hj => ?_) hc R
  unfold step1
  simp only [hg, ha, callM, hp, hj, h2, h3, hs, putDst, Env.putO, cond_true]
end Go.AM

/- AM: slices of slices: what they freeze to hangs on a part of the heap alone. -/
namespace Go.AM
set_option linter.unusedVariables false
set_option linter.unusedSimpArgs false

def Subh (h0 h : Heap) : Prop := ∀ i o, h0.get i = some o → h.get i = some o
theorem Subh.refl (h : Heap) : Subh h h := fun _ _ h => h
theorem Subh.trans {a b c : Heap} (h : Subh a b) (k : Subh b c) : Subh a c := fun i o e => k i o (h i o e)
theorem Subh.put {h0 h : Heap} (H : Subh h0 h) {i : Id} {o : AObj} (hn : h0.get i = none) : Subh h0 (h.put i o) := by
  intro j p hj
  rw [Heap.get_put]
  by_cases e : j = i
  · subst e; rw [hn] at hj; cases hj
  · rw [if_neg e]; exact H j p hj
theorem Subh.put2 {h0 h : Heap} (H : Subh h0 h) (i : Id) (o : AObj) : Subh (h0.put i o) (h.put i o) := by
  intro j p hj
  rw [Heap.get_put] at hj ⊢
  by_cases e : j = i
  · rw [if_pos e] at hj ⊢; exact hj
  · rw [if_neg e] at hj ⊢; exact H j p hj
theorem mapO_imp {f g : AV → Option AV} (h : ∀ a b, f a = some b → g a = some b) : ∀ (l m : List AV), mapO f l = some m → mapO g l = some m := by
  intro l
  induction l with
  | nil => intro m h; exact h
  | cons a l ih =>
    intro m hm
    simp only [mapO] at hm ⊢
    cases h1 : f a with
    | none => rw [h1] at hm; cases hm
    | some b =>
      cases h2 : mapO f l with
      | none => rw [h1, h2] at hm; cases hm
      | some r =>
        rw [h1, h2] at hm
        rw [h a b h1, ih r h2]; exact hm
theorem pur_sub {h0 h : Heap} (H : Subh h0 h) : ∀ (k : Nat) (a b : AV), AM.pur k h0 a = some b → AM.pur k h a = some b := by
  intro k
  induction k with
  | zero => intro a b e; cases e
  | succ k ih =>
    intro a b e
    have im := mapO_imp ih
    cases a with
    | ptr o off =>
      simp only [AM.pur] at e ⊢
      cases hg : h0.get o with
      | none => rw [hg] at e; cases e
      | some ob =>
        rw [hg] at e; rw [H _ _ hg]
        cases ob with
        | cells cs =>
          dsimp only at e ⊢
          cases hm : mapO (AM.pur k h0) cs with
          | none => rw [hm] at e; cases e
          | some l => rw [hm] at e; rw [im _ _ hm]; exact e
        | map _ _ _ _ => exact e
    | slice o co len esz clip =>
      simp only [AM.pur] at e ⊢
      cases hg : h0.get o with
      | none => rw [hg] at e; cases e
      | some ob =>
        rw [hg] at e; rw [H _ _ hg]
        cases ob with
        | cells cs =>
          dsimp only at e ⊢
          cases hs : sub cs co (len * esz) with
          | none => rw [hs] at e; cases e
          | some l0 =>
            rw [hs] at e
            dsimp only at e ⊢
            cases hm : mapO (AM.pur k h0) l0 with
            | none => rw [hm] at e; cases e
            | some l => rw [hm] at e; rw [im _ _ hm]; exact e
        | map _ _ _ _ => exact e
    | map o =>
      simp only [AM.pur] at e ⊢
      cases hg : h0.get o with
      | none => rw [hg] at e; cases e
      | some ob =>
        rw [hg] at e; rw [H _ _ hg]
        cases ob with
        | cells cs => exact e
        | map ks vs _ _ =>
          dsimp only at e ⊢
          cases h1 : mapO (AM.pur k h0) ks with
          | none => rw [h1] at e; cases e
          | some l1 =>
            cases h2 : mapO (AM.pur k h0) vs with
            | none => rw [h1, h2] at e; cases e
            | some l2 => rw [h1, h2] at e; rw [im _ _ h1, im _ _ h2]; exact e
    | agg cs =>
      simp only [AM.pur] at e ⊢
      cases hm : mapO (AM.pur k h0) cs with
      | none => rw [hm] at e; cases e
      | some l => rw [hm] at e; rw [im _ _ hm]; exact e
    | tuple cs =>
      simp only [AM.pur] at e ⊢
      cases hm : mapO (AM.pur k h0) cs with
      | none => rw [hm] at e; cases e
      | some l => rw [hm] at e; rw [im _ _ hm]; exact e
    | func fn x y =>
      simp only [AM.pur] at e ⊢
      cases h1 : mapO (AM.pur k h0) x with
      | none => rw [h1] at e; cases e
      | some l1 =>
        cases h2 : mapO (AM.pur k h0) y with
        | none => rw [h1, h2] at e; cases e
        | some l2 => rw [h1, h2] at e; rw [im _ _ h1, im _ _ h2]; exact e
    | _ => exact e
theorem mapO_sub {h0 h : Heap} (H : Subh h0 h) {k : Nat} {l m : List AV} (e : mapO (AM.pur k h0) l = some m) : mapO (AM.pur k h) l = some m := mapO_imp (pur_sub H k) l m e
theorem mapO_app {f : AV → Option AV} : ∀ {l m r s : List AV}, mapO f l = some r → mapO f m = some s → mapO f (l ++ m) = some (r ++ s) := by
  intro l
  induction l with
  | nil => intro m r s h1 h2; simp only [mapO, Option.some.injEq] at h1; subst h1; exact h2
  | cons a l ih =>
    intro m r s h1 h2
    simp only [mapO, List.cons_append] at h1 ⊢
    cases ha : f a with
    | none => rw [ha] at h1; cases h1
    | some b =>
      cases hl : mapO f l with
      | none => rw [ha, hl] at h1; cases h1
      | some t =>
        rw [ha, hl] at h1
        simp only [Option.some.injEq] at h1
        rw [ih hl h2, ← h1]; rfl
/-- A slice of one's own, deep. -/
theorem pur_deep {k : Nat} {h : Heap} {o : Id} {len esz : Nat} {clip : Bool} {cs ds : List AV} (hg : h.get o = some (.cells cs)) (hl : cs.length = len * esz) (hp : mapO (AM.pur k h) cs = some ds) :
    AM.pur (k + 1) h (.slice o 0 len esz clip) = some (.pslice ds len esz clip) := by
  simp only [AM.pur, hg, sub_all cs _ hl, hp]
theorem OwnS.deep {k : Nat} {h : Heap} {esz len : Nat} {cs ds : List AV} {v : AV} (hv : OwnS h esz cs len v) (hp : mapO (AM.pur k h) cs = some ds) : ∃ q e, AM.pur (k + 1) h v = some (.pslice ds len e q) := by
  rcases hv with ⟨rfl, rfl, rfl⟩ | ⟨o, clip, rfl, h1, h2⟩
  · simp only [mapO, Option.some.injEq] at hp; subst hp; exact ⟨_, _, rfl⟩
  · exact ⟨_, _, pur_deep h1 h2 hp⟩
/-- One element is put at the end of a slice of one's own; what else lies in the heap stays. -/
theorem WL.pushG {E : Env} {H : Heap} {T : FuncId → Option VFun} {nr i dd : Nat} {dr : DR} {g g' : Option (Nat × Bool)} {esz bytes len t u : Nat} {md md' : Mode} {l : List VO} {N : Nat} {K : St → Prop} {v b : AV} {cs new z : List AV} {x : Operand}
    (hg : wantedA E g = some true) (hx : evA E x = some b) (hb : cellsOf b = new) (hbl : new.length = esz) (hz : z.length = esz) (hg' : wantedA (E.put u (.v (.slice (nr, i) 0 1 esz true))) g' = some true) (htu : t ≠ u)
    (hs : E.get t = some (.v v)) (hv : OwnS H esz cs len v) (hno : ∀ j, j ∈ v.objs → j ≠ (nr, i)) (ho : ones new = true) (hsz : (len + 1) * bytes ≤ 140737488355328)
    (hc : okR dr i ([], [.obj (nr, i)]) ⟨some u, g, .bslice z 1 esz [(0, x)], md⟩ = true)
    (hc' : ∀ rd wr, (∀ k ∈ wr, ∃ o, k = .obj o ∧ (o = (nr, i + 1) ∨ o ∈ v.objs)) → okR (logR dr i ([], [.obj (nr, i)])) (i + 1) (rd, wr) ⟨some dd, g', .append esz bytes (.tmp t) (.tmp u), md'⟩ = true)
    (R : ∀ rd wr H', OwnS H' esz (cs ++ new) (len + 1) (.slice (nr, i + 1) 0 (len + 1) esz false) → (∀ j, j ∉ v.objs → j ≠ (nr, i) → j ≠ (nr, i + 1) → H'.get j = H.get j) → (∀ m, nr < m → Fresh H m → Fresh H' m) →
      WL T nr (logR (logR dr i ([], [.obj (nr, i)])) (i + 1) (rd, wr)) (i + 2) l ⟨(E.put u (.v (.slice (nr, i) 0 1 esz true))).put dd (.v (.slice (nr, i + 1) 0 (len + 1) esz false)), H', N⟩ K) :
    WL T nr dr i (⟨some u, g, .bslice z 1 esz [(0, x)], md⟩ :: ⟨some dd, g', .append esz bytes (.tmp t) (.tmp u), md'⟩ :: l) ⟨E, H, N⟩ K := by
  have e1 : aop E H (nr, i) (some u) (.bslice z 1 esz [(0, x)]) = some ⟨.v (.slice (nr, i) 0 1 esz true), none, [((nr, i), .cells new)], none, [], [.obj (nr, i)]⟩ := by
    have h1 : (new.length == esz) = true := by rw [hbl]; simp
    have h2 : Nat.ble (0 + new.length) (rep 1 z).length = true := Nat.ble_eq_true_of_le (by simp [rep, hbl, hz])
    have h3 : (rep 1 z).drop (0 + new.length) = [] := List.drop_eq_nil_of_le (by simp [rep, hbl, hz])
    simp only [aop, evElems, hx, hb, h1, cond_true, fill, Nat.zero_mul, upd, h2, h3, List.take_zero, List.nil_append, List.append_nil]
  refine WL.heap hg e1 hc ?_
  refine WL.append (b := .slice (nr, i) 0 1 esz true) (new := new) (n := 1) hg' (v := v) ?_ (hv.frame fun j hj => by rw [Heap.get_put, if_neg (hno j hj)]) (evA_nj (by rw [show (E.putO (some u) (SV.v (AV.slice (nr, i) 0 1 esz true))) = E.put u (SV.v (AV.slice (nr, i) 0 1 esz true)) from rfl, Env.get_put, if_pos rfl]) (by intro h; cases h)) (elems_put (by omega)) (by decide) ho (by omega) hsz hc' ?_
  · show (E.put u _).get t = _
    rw [Env.get_put, if_neg htu]; exact hs
  · intro rd wr H' h1 h2 h3
    refine R rd wr H' h1 (fun j hj n1 n2 => ?_) (fun m hm hf => h3 m hm (hf.put hm (Nat.le_refl _)))
    rw [h2 j hj n2, Heap.get_put, if_neg n1]
end Go.AM

/- The tower of groups. -/
namespace Go.AM.B
open Go.Proofs.Ytebogdeaiecldaa.Tab
noncomputable section
set_option linter.unusedVariables false
set_option linter.unusedSimpArgs false
set_option maxHeartbeats 4000000

def tabCells : List AV := [.int .i64 1, .int .u8 0, .nils, .int .i64 0, .int .i64 1]
def jmpI (i : Int) : Instr := ⟨14, 0, 0, 0, 0, 0, i⟩
def zeroI : Instr := ⟨0, 0, 0, 0, 0, 0, 0⟩
structure TwR (w : Nat) (h : Heap) (n k : Nat) (vb vg : AV) (h0 : Heap) (cb cg : List AV) (B : List Block) (G : List Group) : Prop where
  ob : OwnS h 2 cb k vb
  og : OwnS h 4 cg k vg
  sb : Subh h0 h
  nb : ∀ o ∈ vb.objs, h0.get o = none
  ng : ∀ o ∈ vg.objs, h0.get o = none
  dj : ∀ o ∈ vb.objs, o ∉ vg.objs
  pb : AM.mapO (AM.pur 38 h0) cb = some (B.flatMap Block.enc)
  pg : AM.mapO (AM.pur 38 h0) cg = some (G.flatMap Group.enc)
  tb : h0.get (1, 1) = some (.cells tabCells)
  fr : Fresh h n
  lb : B.map (fun b => (b.id, b.code.l)) = (List.range k).map fun (j : Nat) => (((j : Int) + 1), [jmpI ((j : Int) + 1)])
  lg : G.map (fun g => (g.id, g.kind, g.buckets.l)) = (List.range k).map fun (j : Nat) => (((j : Int) + 1), (1 : Int), List.replicate w (⟨0, (j : Int) + 1 + 1⟩ : Bucket))
  n1 : 1 < n
theorem rep_flat {α : Type} {enc : α → List AV} (a : α) : ∀ m, rep m (enc a) = (List.replicate m a).flatMap enc := by
  intro m
  induction m with
  | zero => rfl
  | succ m ih => rw [List.replicate_succ, List.flatMap_cons, ← ih]; rfl
theorem OwnS.part {h0 H : Heap} {ck : List AV} {w : Nat} {v : AV} (hv : OwnS H 2 ck w v) (hs : Subh h0 H) (hn : ∀ o ∈ v.objs, h0.get o = none) (hp : ∀ h, AM.mapO (AM.pur 37 h) ck = some ck) :
    ∃ h1, Subh h0 h1 ∧ Subh h1 H ∧ (∀ o, o ∉ v.objs → h1.get o = h0.get o) ∧ ∃ q e, AM.pur 38 h1 v = some (.pslice ck w e q) := by
  rcases hv with ⟨rfl, rfl, rfl⟩ | ⟨o, clip, rfl, g1, g2⟩
  · exact ⟨h0, .refl _, hs, fun _ _ => rfl, _, _, rfl⟩
  · have ho : h0.get o = none := hn o (by simp [AV.objs])
    refine ⟨h0.put o (.cells ck), (Subh.refl h0).put ho, ?_, fun j hj => ?_, clip, 2, pur_deep (by rw [Heap.get_put, if_pos rfl]) g2 (hp _)⟩
    · intro j p hj
      rw [Heap.get_put] at hj
      by_cases e : j = o
      · rw [if_pos e] at hj; rw [e, g1]; exact hj
      · rw [if_neg e] at hj; exact hs j p hj
    · rw [Heap.get_put, if_neg (fun e => hj (by rw [e]; simp [AV.objs]))]
theorem Fresh.none {h : Heap} {n : Nat} (H : Fresh h n) {i : AM.Id} (hi : n ≤ i.1) : h.get i = Option.none := by
  cases hg : h.get i with
  | none => rfl
  | some o => exact absurd (H i o hg) (by omega)
theorem Subh.none {h0 h : Heap} (H : Subh h0 h) {i : AM.Id} (hi : h.get i = Option.none) : h0.get i = Option.none := by
  cases hg : h0.get i with
  | none => rfl
  | some o => rw [H i o hg] at hi; cases hi
theorem VC1.ofE {α : Type} {enc : α → AV} {P : α → Prop} {T : FuncId → Option VFun} {f : FuncId} {args : List AV} {vf : VFun} (hT : T f = some vf) (hn : (vf.nargs == args.length) = true)
    (H : W T [.code vf.body] ⟨initEnv 0 args, Heap.empty, 0⟩ fun s' => ∃ C, P C ∧ ∃ l, readRess s'.env s'.heap vf.results = some l ∧ AM.pur purLimit s'.heap (theRes l) = some (enc C)) : ∃ C, P C ∧ VC1 T f args (enc C) := by
  obtain ⟨s', e, C, hP, q⟩ := H
  exact ⟨C, hP, VC1.of hT hn ⟨s', e, q⟩⟩
/-- What the tower holds. -/
structure IsTower (w d l : Nat) (C : Config) : Prop where
  n : C.nodes.l = []
  t : C.tables.l.map (fun t => (t.id, t.miss)) = [(1, 1)]
  e : C.entries.l = []
  b : C.blocks.l.map (fun b => (b.id, b.code.l)) = ((List.range d).map fun (j : Nat) => (((j : Int) + 1), [jmpI ((j : Int) + 1)])) ++ [((d : Int) + 1, List.replicate l zeroI)]
  g : C.groups.l.map (fun g => (g.id, g.kind, g.buckets.l)) = (List.range d).map fun (j : Nat) => (((j : Int) + 1), (1 : Int), List.replicate w (⟨0, (j : Int) + 1 + 1⟩ : Bucket))
theorem ones_app : ∀ {a b : List AV}, ones a = true → ones b = true → ones (a ++ b) = true := by
  intro a
  induction a with
  | nil => intro b _ h; exact h
  | cons x a ih =>
    intro b h1 h2
    simp only [ones, Bool.and_eq_true, List.cons_append] at h1 ⊢
    exact ⟨h1.1, ih h1.2 h2⟩
theorem TwR.push1 {w n k : Nat} {h H1 : Heap} {vb vg : AV} {h0 : Heap} {cb cg : List AV} {B : List Block} {G : List Group} (tw : TwR w h n k vb vg h0 cb cg B G) {L : List Instr} {q : Bool} (bid : Int)
    (hs : OwnS H1 2 (cb ++ [.int .i64 bid, .slice (n, 5) 0 L.length 7 q]) (k + 1) (.slice (n, 8) 0 (k + 1) 2 false))
    (hf : ∀ j, j ∉ vb.objs → j ≠ (n, 7) → j ≠ (n, 8) → H1.get j = (h.put (n, 5) (.cells (L.flatMap Instr.enc))).get j) (hfr : Fresh H1 (n + 1)) :
    ∃ h1, Subh h1 H1 ∧ (∀ j, j.1 ≥ n → j ≠ (n, 5) → h1.get j = none) ∧ (∀ o ∈ vg.objs, h1.get o = none) ∧ OwnS H1 4 cg k vg ∧ h1.get (1, 1) = some (.cells tabCells) ∧
      AM.mapO (AM.pur 38 h1) (cb ++ [.int .i64 bid, .slice (n, 5) 0 L.length 7 q]) = some ((B ++ [(⟨bid, ⟨L, q, 7⟩⟩ : Block)]).flatMap Block.enc) ∧ AM.mapO (AM.pur 38 h1) cg = some (G.flatMap Group.enc) := by
  have hn5 : h0.get (n, 5) = none := Subh.none tw.sb (Fresh.none tw.fr (Nat.le_refl _))
  have old : ∀ j, j.1 < n → j ∉ vb.objs → H1.get j = h.get j := by
    intro j hj hb
    have e1 : j ≠ (n, 7) := fun e => by rw [e] at hj; exact absurd hj (Nat.lt_irrefl _)
    have e2 : j ≠ (n, 8) := fun e => by rw [e] at hj; exact absurd hj (Nat.lt_irrefl _)
    have e3 : j ≠ (n, 5) := fun e => by rw [e] at hj; exact absurd hj (Nat.lt_irrefl _)
    rw [hf j hb e1 e2, Heap.get_put, if_neg e3]
  have lt0 : ∀ j o, h0.get j = some o → j.1 < n := fun j o hj => tw.fr _ _ (tw.sb _ _ hj)
  have s1 : Subh (h0.put (n, 5) (.cells (L.flatMap Instr.enc))) H1 := by
    intro j p hj
    rw [Heap.get_put] at hj
    by_cases e : j = (n, 5)
    · subst e
      rw [if_pos rfl] at hj
      have nb : ((n, 5) : AM.Id) ∉ vb.objs := fun hm => by
        have := OwnS.lt tw.ob tw.fr _ hm
        exact absurd this (Nat.lt_irrefl _)
      rw [hf _ nb (by intro e; simp at e) (by intro e; simp at e), Heap.get_put, if_pos rfl]; exact hj
    · rw [if_neg e] at hj
      rw [old j (lt0 j p hj) (fun hm => by rw [tw.nb j hm] at hj; cases hj)]
      exact tw.sb j p hj
  have s0 : Subh h0 (h0.put (n, 5) (.cells (L.flatMap Instr.enc))) := (Subh.refl h0).put hn5
  refine ⟨h0.put (n, 5) (.cells (L.flatMap Instr.enc)), s1, fun j hj hne => ?_, fun o ho => ?_, ?_, ?_, ?_, mapO_sub s0 tw.pg⟩
  · rw [Heap.get_put, if_neg hne]
    exact Subh.none tw.sb (Fresh.none tw.fr hj)
  · have := OwnS.lt tw.og tw.fr o ho
    rw [Heap.get_put, if_neg (fun e => by rw [e] at this; exact absurd this (Nat.lt_irrefl _))]
    exact tw.ng o ho
  · exact tw.og.frame fun j hj => old j (OwnS.lt tw.og tw.fr j hj) (fun hm => tw.dj j hm hj)
  · rw [Heap.get_put, if_neg (fun e => by have := congrArg Prod.fst e; have h1 := tw.n1; dsimp only at this; omega)]
    exact tw.tb
  · rw [List.flatMap_append]
    refine mapO_app (mapO_sub s0 tw.pb) (mapO_cons rfl (mapO_cons (b := .pslice (L.flatMap Instr.enc) L.length 7 q) ?_ rfl))
    refine pur_slice (k := 37) (by rw [Heap.get_put, if_pos rfl]) (flat_len (k := 7) (fun _ => rfl) _) ?_
    intro a ha; obtain ⟨x, _, ha⟩ := List.mem_flatMap.1 ha; simp only [Instr.enc, List.mem_cons, List.not_mem_nil, or_false] at ha; rcases ha with rfl | rfl | rfl | rfl | rfl | rfl | rfl <;> rfl
theorem aop_makeR {E : Env} {H : Heap} {nid : AM.Id} {d : Option Nat} {z : List AV} {bytes : Nat} {l : Operand} {n : Int} {m : Nat} (hl : evA E l = some (.int .i64 n)) (hn : n = m) (hb : m * bytes ≤ 140737488355328) :
    aop E H nid d (.mkslice z bytes l l) = some ⟨.v (.slice nid 0 m z.length true), none, [(nid, .cells (rep m z))], none, [], [.obj nid]⟩ := by
  subst hn
  have h1 : decide ((0 : Int) ≤ (m : Int)) = true := decide_eq_true (by omega)
  have h2 : decide ((m : Int) ≤ (m : Int)) = true := decide_eq_true (by omega)
  have h3 : decide ((m : Int) * (bytes : Int) ≤ 140737488355328) = true := decide_eq_true (by have : ((m * bytes : Nat) : Int) ≤ 140737488355328 := (by omega); rwa [Int.natCast_mul] at this)
  simp only [aop, hl]
  rw [h1, h2, h3]
  simp only [Bool.and_self, cond_true, Int.toNat_natCast, beq_self_eq_true]
theorem TwR.mono {w n m k : Nat} {h : Heap} {vb vg : AV} {h0 : Heap} {cb cg : List AV} {B : List Block} {G : List Group} (tw : TwR w h n k vb vg h0 cb cg B G) (hm : n ≤ m) : TwR w h m k vb vg h0 cb cg B G :=
  { tw with fr := tw.fr.mono hm, n1 := Nat.lt_of_lt_of_le tw.n1 hm }
def bkt (k : Nat) : Bucket := ⟨0, (k : Int) + 1 + 1⟩
theorem bkt_pur (j k : Nat) (h : Heap) : AM.mapO (AM.pur 37 h) ((List.replicate j (bkt k)).flatMap Bucket.enc) = some ((List.replicate j (bkt k)).flatMap Bucket.enc) :=
  pur_scal_all 37 h _ (by intro a ha; obtain ⟨x, _, ha⟩ := List.mem_flatMap.1 ha; simp only [Bucket.enc, List.mem_cons, List.not_mem_nil, or_false] at ha; rcases ha with rfl | rfl <;> rfl)
/-- After a round. -/
theorem TwR.next {w m k nI nr n' : Nat} {H1 H2 H3 : Heap} {vg vk : AV} {h1 : Heap} {cb' cg ck : List AV} {B' : List Block} {G : List Group} (m1 : 1 < m) (hmI : m + 1 ≤ nI) (hIr : nI ≤ nr) (hr' : nr + 1 ≤ n')
    (s1 : Subh h1 H1) (e1 : ∀ j, j.1 ≥ m → j ≠ (m, 5) → h1.get j = none) (ng1 : ∀ o ∈ vg.objs, h1.get o = none) (t1 : h1.get (1, 1) = some (.cells tabCells))
    (pb1 : AM.mapO (AM.pur 38 h1) cb' = some (B'.flatMap Block.enc)) (pg1 : AM.mapO (AM.pur 38 h1) cg = some (G.flatMap Group.enc)) (ob1 : OwnS H1 2 cb' (k + 1) (.slice (m, 8) 0 (k + 1) 2 false))
    (fr1 : Fresh H1 (m + 1)) (vlt : ∀ o ∈ vg.objs, o.1 < m)
    (ok2 : OwnS H2 2 ck w vk) (eck : ck = (List.replicate w (bkt k)).flatMap Bucket.enc) (kge : ∀ o ∈ vk.objs, nI ≤ o.1) (old2 : ∀ i, i.1 < nI → H2.get i = H1.get i) (fr2 : Fresh H2 nr)
    (og3 : OwnS H3 4 (cg ++ [.int .i64 ((k : Int) + 1), .int .u8 1, .int .i64 0, vk]) (k + 1) (.slice (nr, 4) 0 (k + 1) 4 false)) (old3 : ∀ j, j ∉ vg.objs → j ≠ (nr, 3) → j ≠ (nr, 4) → H3.get j = H2.get j) (fr3 : Fresh H3 (nr + 1))
    (lb : B'.map (fun b => (b.id, b.code.l)) = (List.range (k + 1)).map fun (j : Nat) => (((j : Int) + 1), [jmpI ((j : Int) + 1)]))
    (lg : G.map (fun g => (g.id, g.kind, g.buckets.l)) = (List.range k).map fun (j : Nat) => (((j : Int) + 1), (1 : Int), List.replicate w (⟨0, (j : Int) + 1 + 1⟩ : Bucket))) :
    ∃ h0 cb cg B G, TwR w H3 n' (k + 1) (.slice (m, 8) 0 (k + 1) 2 false) (.slice (nr, 4) 0 (k + 1) 4 false) h0 cb cg B G := by
  have lt1 : ∀ j o, h1.get j = some o → j.1 < m + 1 := fun j o hj => fr1 _ _ (s1 _ _ hj)
  have s12 : Subh h1 H2 := fun j o hj => by rw [old2 j (by have := lt1 j o hj; omega)]; exact s1 j o hj
  obtain ⟨h2, u1, u2, u3, q, e, u4⟩ := OwnS.part ok2 s12 (fun o ho => by
    cases hg : h1.get o with
    | none => rfl
    | some p => have := lt1 o p hg; have := kge o ho; omega) (fun h => by rw [eck]; exact bkt_pur w k h)
  have nvk : ∀ j : AM.Id, j.1 < nI → j ∉ vk.objs := fun j hj hm => by have := kge j hm; omega
  have s23 : Subh h2 H3 := by
    intro j o hj
    have h2j := u2 j o hj
    have hlt := fr2 _ _ h2j
    have nv : j ∉ vg.objs := fun hm => by
      have := vlt j hm
      rw [u3 j (nvk j (by omega)), ng1 j hm] at hj; cases hj
    rw [old3 j nv (fun e => by rw [e] at hlt; exact absurd hlt (Nat.lt_irrefl _)) (fun e => by rw [e] at hlt; exact absurd hlt (Nat.lt_irrefl _))]
    exact h2j
  refine ⟨h2, cb', cg ++ [.int .i64 ((k : Int) + 1), .int .u8 1, .int .i64 0, vk], B', G ++ [⟨(k : Int) + 1, 1, 0, ⟨List.replicate w (bkt k), q, e⟩⟩], ⟨?_, og3, s23, ?_, ?_, ?_, mapO_sub u1 pb1, ?_, u1 _ _ t1, fr3.mono hr', lb, ?_, by omega⟩⟩
  · refine (ob1.frame (h' := H2) fun j hj => ?_).frame fun j hj => ?_
    · simp only [AV.objs, List.mem_singleton] at hj
      subst hj
      exact old2 _ (by dsimp only; omega)
    · simp only [AV.objs, List.mem_singleton] at hj
      subst hj
      exact old3 _ (fun hm => absurd (vlt _ hm) (Nat.lt_irrefl _)) (fun e => by have := congrArg Prod.fst e; dsimp only at this; omega) (fun e => by have := congrArg Prod.fst e; dsimp only at this; omega)
  · intro o ho
    simp only [AV.objs, List.mem_singleton] at ho
    subst ho
    rw [u3 _ (nvk _ (by dsimp only; omega))]
    exact e1 _ (Nat.le_refl _) (fun e => by have := congrArg Prod.snd e; dsimp only at this; omega)
  · intro o ho
    simp only [AV.objs, List.mem_singleton] at ho
    subst ho
    exact Subh.none u2 (Fresh.none fr2 (Nat.le_refl _))
  · intro o ho hm
    simp only [AV.objs, List.mem_singleton] at ho hm
    rw [ho] at hm
    have := congrArg Prod.fst hm
    dsimp only at this; omega
  · rw [List.flatMap_append]
    refine mapO_app (mapO_sub u1 pg1) (mapO_cons rfl (mapO_cons rfl (mapO_cons rfl (mapO_cons u4 rfl)))) |>.trans ?_
    rw [eck]
    have : (List.replicate w (bkt k)).length = w := List.length_replicate
    simp only [List.flatMap_cons, List.flatMap_nil, Group.enc, Sl.av, this, List.append_nil]
  · rw [List.map_append, lg, List.range_succ, List.map_append]; rfl
theorem tower_c (w d l : Nat) (hw : w < 10000) (hd : d < 10000) (hl : l < 10000) : ∃ (C : Config), IsTower w d l C ∧ VC1 T 24 [.int .i64 w, .int .i64 d, .int .i64 l] (.agg C.enc) := by
  refine VC1.ofE (enc := fun C : Config => .agg C.enc) (vf := v24) rfl rfl ?_
  unfold v24
  repeat (first | refine W.seq ?_ | refine W.ops ?_ | refine WL.off rfl rfl ?_ | refine WL.val rfl rfl rfl ?_ | refine WL.nil ?_ | refine W.block ?_ | refine W.outBlock ?_ | refine W.skip ?_ | refine W.exit rfl ?_ | refine WL.box rfl rfl rfl ?_ | refine W.opsD ?_ | refine W.condT rfl ?_ | refine W.condF rfl ?_ | refine WL.heap rfl rfl rfl ?_)
  refine W.loopE (E0 := envOf [(0, _), (1, _), (2, _), (6, _), (7, _), (8, _)]) rfl (β := Nat × AV × AV) (fun b => [(7, .box [.nils, .nils, .slice (1, 1) 0 1 5 true, .nils, b.2.1, b.2.2, .nils, .nils, .nils]), (8, .v (.int .i64 ((b.1 : Int) + 1)))])
    (fun b h n => b.1 ≤ d ∧ ∃ h0 cb cg B G, TwR w h n b.1 b.2.1 b.2.2 h0 cb cg B G) (fun b => d - b.1) (0, .nils, .nils) rfl ⟨by simp, ?_⟩ ?_
  · refine ⟨Heap.empty.put (1, 1) (.cells tabCells), [], [], [], [], .nil _ _, .nil _ _, .refl _, (fun o ho => by cases ho), (fun o ho => by cases ho), (fun o ho => by cases ho), rfl, rfl, by rw [Heap.get_put, if_pos rfl], ?_, rfl, rfl, by decide⟩
    exact (Fresh.empty 3).put (by decide) (Nat.le_refl _)
  rintro ⟨k, vb, vg⟩ h n ⟨hk, h0, cb, cg, B, G, tw⟩ ih
  dsimp only at hk tw
  repeat (first | refine W.seq ?_ | refine W.ops ?_ | refine WL.off rfl rfl ?_ | refine WL.val rfl rfl rfl ?_ | refine WL.nil ?_ | refine W.block ?_ | refine W.outBlock ?_ | refine W.skip ?_ | refine W.exit rfl ?_ | refine WL.box rfl rfl rfl ?_ | refine W.opsD ?_ | refine W.condT rfl ?_ | refine W.condF rfl ?_)
  refine W.condS rfl (fun hb2 => ?_) (fun hb2 => ?_)
  · have hlt : k < d := by have := of_decide_eq_true hb2; omega
    have tw1 := tw.mono (Nat.le_succ n)
    repeat (first | refine W.seq ?_ | refine W.ops ?_ | refine WL.off rfl rfl ?_ | refine WL.val rfl rfl rfl ?_ | refine WL.nil ?_ | refine W.block ?_ | refine W.outBlock ?_ | refine W.skip ?_ | refine W.exit rfl ?_ | refine WL.box rfl rfl rfl ?_ | refine W.opsD ?_ | refine W.condT rfl ?_ | refine W.condF rfl ?_)
    refine WL.heap rfl rfl rfl ?_
    repeat (first | refine W.seq ?_ | refine W.ops ?_ | refine WL.off rfl rfl ?_ | refine WL.val rfl rfl rfl ?_ | refine WL.nil ?_ | refine W.block ?_ | refine W.outBlock ?_ | refine W.skip ?_ | refine W.exit rfl ?_ | refine WL.box rfl rfl rfl ?_ | refine W.opsD ?_ | refine W.condT rfl ?_ | refine W.condF rfl ?_)
    refine WL.pushG (v := vb) (cs := cb) (len := k) rfl rfl rfl rfl rfl rfl (by decide) rfl (tw.ob.frame fun j hj => ?_) (fun j hj e => ?_) rfl (by omega) rfl (fun _ _ _ => rfl) ?_
    · have := OwnS.lt tw.ob tw.fr j hj
      rw [Heap.get_put, if_neg (fun e => by rw [e] at this; exact absurd this (by dsimp only; omega))]
    · have := OwnS.lt tw.ob tw.fr j hj
      rw [e] at this; exact absurd this (by dsimp only; omega)
    intro rd wr H1 oh1 of1 fr1
    have fr1' : Fresh H1 (n + 1 + 1) := fr1 _ (by omega) ((tw1.fr.mono (Nat.le_succ _)).put (by dsimp only; omega) (Nat.le_refl _))
    obtain ⟨h1, s1, e1, ng1, og1, t1, pb1, pg1⟩ := tw1.push1 (L := [jmpI ((k : Int) + 1)]) (q := true) ((k : Int) + 1) oh1 of1 fr1'
    repeat (first | refine W.seq ?_ | refine W.ops ?_ | refine WL.off rfl rfl ?_ | refine WL.val rfl rfl rfl ?_ | refine WL.nil ?_ | refine W.block ?_ | refine W.outBlock ?_ | refine W.skip ?_ | refine W.exit rfl ?_ | refine WL.box rfl rfl rfl ?_ | refine W.opsD ?_ | refine W.condT rfl ?_ | refine W.condF rfl ?_)
    refine W.loopE (E0 := envOf [(0, _), (1, _), (2, _), (6, _), (7, _), (8, _), (9, _), (10, _)]) rfl (β := Nat × AV) (fun b => [(9, .box [.int .i64 ((k : Int) + 1), .int .u8 1, .int .i64 0, b.2]), (10, .v (.int .i64 (b.1 : Int)))])
      (fun b h n2 => b.1 ≤ w ∧ OwnS h 2 ((List.replicate b.1 (bkt k)).flatMap Bucket.enc) b.1 b.2 ∧ (∀ o ∈ b.2.objs, n + 2 ≤ o.1) ∧ (∀ i, i.1 < n + 2 → h.get i = H1.get i) ∧ Fresh h n2 ∧ n + 2 ≤ n2) (fun b => w - b.1) (0, .nils) rfl ⟨by simp, .nil _ _, (fun o ho => by cases ho), fun _ _ => rfl, fr1'.mono (by omega), by omega⟩ ?_
    rintro ⟨j, vk⟩ h n2 ⟨hj, ok2, kge, old2, fr2, hn2⟩ ih2
    dsimp only at hj ok2 kge
    repeat (first | refine W.seq ?_ | refine W.ops ?_ | refine WL.off rfl rfl ?_ | refine WL.val rfl rfl rfl ?_ | refine WL.nil ?_ | refine W.block ?_ | refine W.outBlock ?_ | refine W.skip ?_ | refine W.exit rfl ?_ | refine WL.box rfl rfl rfl ?_ | refine W.opsD ?_ | refine W.condT rfl ?_ | refine W.condF rfl ?_)
    refine W.condS rfl (fun hb3 => ?_) (fun hb3 => ?_)
    · have hlj : j < w := by have := of_decide_eq_true hb3; dsimp only at this; omega
      repeat (first | refine W.seq ?_ | refine W.ops ?_ | refine WL.off rfl rfl ?_ | refine WL.val rfl rfl rfl ?_ | refine WL.nil ?_ | refine W.block ?_ | refine W.outBlock ?_ | refine W.skip ?_ | refine W.exit rfl ?_ | refine WL.box rfl rfl rfl ?_ | refine W.opsD ?_ | refine W.condT rfl ?_ | refine W.condF rfl ?_)
      refine WL.pushG (v := vk) (len := j) rfl rfl rfl rfl rfl rfl (by decide) rfl ok2 (fun i hi e => ?_) rfl (by omega) rfl (fun _ _ _ => rfl) ?_
      · have := OwnS.lt ok2 fr2 i hi
        rw [e] at this; exact absurd this (by dsimp only; omega)
      intro rd wr H2 oh2 of2 fr2'
      repeat (first | refine W.seq ?_ | refine W.ops ?_ | refine WL.off rfl rfl ?_ | refine WL.val rfl rfl rfl ?_ | refine WL.nil ?_ | refine W.block ?_ | refine W.outBlock ?_ | refine W.skip ?_ | refine W.exit rfl ?_ | refine WL.box rfl rfl rfl ?_ | refine W.opsD ?_ | refine W.condT rfl ?_ | refine W.condF rfl ?_)
      refine ih2 (j + 1, .slice _ 0 (j + 1) 2 false) _ _ _ ⟨hlj, ?_, ?_, ?_, fr2' _ (by omega) (fr2.mono (by omega)), by omega⟩ (by dsimp only; omega) (by rw [← wrap64_nat (k := j) (by omega)]; rfl)
      · have ew : IntKind.wrap .i64 ((k : Int) + 1 + 1) = (k : Int) + 1 + 1 := wrap64 (by omega) (by omega)
        dsimp only
        rw [List.replicate_succ', List.flatMap_append]
        have : [bkt k].flatMap Bucket.enc = [.int .u64 0, .int .i64 (IntKind.wrap .i64 ((k : Int) + 1 + 1))] := by rw [ew]; rfl
        rw [this]
        exact oh2
      · intro o ho
        simp only [AV.objs, List.mem_singleton] at ho
        subst ho; dsimp only; omega
      · intro i hi
        rw [of2 i (fun hm => by have := kge i hm; omega) (fun e => by rw [e] at hi; dsimp only at hi; omega) (fun e => by rw [e] at hi; dsimp only at hi; omega)]
        exact old2 i hi
    · clear ih2
      have hge : j = w := by have := of_decide_eq_false hb3; dsimp only at this; omega
      subst hge
      repeat (first | refine W.seq ?_ | refine W.ops ?_ | refine WL.off rfl rfl ?_ | refine WL.val rfl rfl rfl ?_ | refine WL.nil ?_ | refine W.block ?_ | refine W.outBlock ?_ | refine W.skip ?_ | refine W.exit rfl ?_ | refine WL.box rfl rfl rfl ?_ | refine W.opsD ?_ | refine W.condT rfl ?_ | refine W.condF rfl ?_)
      have vlt : ∀ o ∈ vg.objs, o.1 < n + 1 := fun o ho => by have := OwnS.lt tw.og tw.fr o ho; omega
      have og2 : OwnS h 4 cg k vg := og1.frame fun i hi => old2 i (by have := vlt i hi; omega)
      refine WL.pushG (v := vg) (cs := cg) (len := k) rfl rfl rfl rfl rfl rfl (by decide) rfl og2 (fun i hi e => ?_) ?_ (by omega) rfl (fun _ _ _ => rfl) ?_
      · have := vlt i hi
        rw [e] at this; exact absurd this (by dsimp only; omega)
      · show ones [_, _, _, vk] = true
        show (true && (true && (true && (vk.one && true)))) = true
        rw [ok2.one]; rfl
      intro rd wr H3 oh3 of3 fr3
      repeat (first | refine W.seq ?_ | refine W.ops ?_ | refine WL.off rfl rfl ?_ | refine WL.val rfl rfl rfl ?_ | refine WL.nil ?_ | refine W.block ?_ | refine W.outBlock ?_ | refine W.skip ?_ | refine W.exit rfl ?_ | refine WL.box rfl rfl rfl ?_ | refine W.opsD ?_ | refine W.condT rfl ?_ | refine W.condF rfl ?_)
      refine ih (k + 1, .slice (n + 1, 8) 0 (k + 1) 2 false, .slice (n2 + 1, 4) 0 (k + 1) 4 false) _ _ _ ⟨hlt, ?_⟩ (by dsimp only; omega) ?_
      · refine TwR.next (w := j) (m := n + 1) (k := k) (nI := n + 2) (nr := n2 + 1) (H1 := H1) (H2 := h) (vg := vg) (vk := vk) (by have := tw.n1; omega) (by omega) (by omega) (by omega) s1 e1 ng1 t1 pb1 pg1 oh1 fr1' vlt ok2 rfl kge old2 (fr2.mono (by omega)) oh3 of3 (fr3 _ (by omega) (fr2.mono (by omega))) ?_ tw.lg
        rw [List.map_append, tw.lb, List.range_succ, List.map_append]; rfl
      · have ez : IntKind.wrap .i64 ((k : Int) + 1 + 1) = ((k + 1 : Nat) : Int) + 1 := by rw [wrap64 (by omega) (by omega)]; omega
        dsimp only
        rw [← ez]; rfl
  · clear ih
    have hge : k = d := by have := of_decide_eq_false hb2; dsimp only at this; omega
    subst hge
    have tw1 := tw.mono (Nat.le_succ n)
    repeat (first | refine W.seq ?_ | refine W.ops ?_ | refine WL.off rfl rfl ?_ | refine WL.val rfl rfl rfl ?_ | refine WL.nil ?_ | refine W.block ?_ | refine W.outBlock ?_ | refine W.skip ?_ | refine W.exit rfl ?_ | refine WL.box rfl rfl rfl ?_ | refine W.opsD ?_ | refine W.condT rfl ?_ | refine W.condF rfl ?_)
    refine WL.heap rfl (aop_makeR rfl rfl (by omega)) rfl ?_
    repeat (first | refine W.seq ?_ | refine W.ops ?_ | refine WL.off rfl rfl ?_ | refine WL.val rfl rfl rfl ?_ | refine WL.nil ?_ | refine W.block ?_ | refine W.outBlock ?_ | refine W.skip ?_ | refine W.exit rfl ?_ | refine WL.box rfl rfl rfl ?_ | refine W.opsD ?_ | refine W.condT rfl ?_ | refine W.condF rfl ?_)
    refine WL.pushG (v := vb) (cs := cb) (len := k) rfl rfl rfl rfl rfl rfl (by decide) rfl (tw.ob.frame fun j hj => ?_) (fun j hj e => ?_) rfl (by omega) rfl (fun _ _ _ => rfl) ?_
    · have := OwnS.lt tw.ob tw.fr j hj
      rw [Heap.get_put, if_neg (fun e => by rw [e] at this; exact absurd this (by dsimp only; omega))]
    · have := OwnS.lt tw.ob tw.fr j hj
      rw [e] at this; exact absurd this (by dsimp only; omega)
    intro rd wr H1 oh1 of1 fr1
    have fr1' : Fresh H1 (n + 1 + 1) := fr1 _ (by omega) ((tw1.fr.mono (Nat.le_succ _)).put (by dsimp only; omega) (Nat.le_refl _))
    have ew : IntKind.wrap .i64 ((k : Int) + 1) = (k : Int) + 1 := wrap64 (by omega) (by omega)
    have erp : rep l [AV.int .u8 0, .int .i64 0, .int .u8 0, .int .u64 0, .int .u8 0, .int .u64 0, .int .i64 0] = (List.replicate l zeroI).flatMap Instr.enc := rep_flat (enc := Instr.enc) zeroI l
    rw [ew] at oh1
    rw [erp] at of1
    have ell : (List.replicate l zeroI).length = l := List.length_replicate
    obtain ⟨h1, s1, e1, ng1, og1, t1, pb1, pg1⟩ := tw1.push1 (L := List.replicate l zeroI) (q := true) ((k : Int) + 1) (by rw [ell]; exact oh1) of1 fr1'
    repeat (first | refine W.seq ?_ | refine W.ops ?_ | refine WL.off rfl rfl ?_ | refine WL.val rfl rfl rfl ?_ | refine WL.nil ?_ | refine W.block ?_ | refine W.outBlock ?_ | refine W.skip ?_ | refine W.exit rfl ?_ | refine WL.box rfl rfl rfl ?_ | refine W.opsD ?_ | refine W.condT rfl ?_ | refine W.condF rfl ?_)
    refine WL.box rfl (aop_store_l rfl rfl rfl ?_ rfl rfl) rfl ?_
    · show (true && (true && (true && (true && (true && (vg.one && (true && (true && (true && true))))))))) = true
      rw [og1.one]; rfl
    repeat (first | refine W.seq ?_ | refine W.ops ?_ | refine WL.off rfl rfl ?_ | refine WL.val rfl rfl rfl ?_ | refine WL.nil ?_ | refine W.block ?_ | refine W.outBlock ?_ | refine W.skip ?_ | refine W.exit rfl ?_ | refine WL.box rfl rfl rfl ?_ | refine W.opsD ?_ | refine W.condT rfl ?_ | refine W.condF rfl ?_)
    have lenB : B.length = k := by have := congrArg List.length tw.lb; simpa using this
    have lenG : G.length = k := by have := congrArg List.length tw.lg; simpa using this
    obtain ⟨qb, eb, PB⟩ := OwnS.deep (k := 38) oh1 (ds := (B ++ [(⟨(k : Int) + 1, ⟨List.replicate l zeroI, true, 7⟩⟩ : Block)]).flatMap Block.enc) (by rw [ell] at pb1; exact mapO_sub s1 pb1)
    obtain ⟨qg, eg, PG⟩ := OwnS.deep (k := 38) og1 (mapO_sub s1 pg1)
    have PT : AM.pur 39 H1 (.slice (1, 1) 0 1 5 true) = some (Sl.av 5 Table.enc ⟨[⟨1, 0, ⟨[], true, 0⟩, 0, 1⟩], true, 5⟩) :=
      (pur_sliceF (k := 38) (s1 _ _ t1) rfl (by intro a ha; simp only [tabCells, List.mem_cons, List.not_mem_nil, or_false] at ha; rcases ha with rfl | rfl | rfl | rfl | rfl <;> rfl)).trans rfl
    have eB : k + 1 = (B ++ [(⟨(k : Int) + 1, ⟨List.replicate l zeroI, true, 7⟩⟩ : Block)]).length := by rw [List.length_append, lenB]; rfl
    rw [eB] at PB
    rw [← lenG] at PG
    refine W.ret ⟨⟨⟨[], true, 0⟩, ⟨[], true, 0⟩, ⟨[⟨1, 0, ⟨[], true, 0⟩, 0, 1⟩], true, 5⟩, ⟨[], true, 0⟩, ⟨B ++ [⟨(k : Int) + 1, ⟨List.replicate l zeroI, true, 7⟩⟩], qb, eb⟩, ⟨G, qg, eg⟩, ⟨[], true, 0⟩, ⟨[], true, 0⟩, ⟨[], true, 0⟩⟩, ⟨rfl, rfl, rfl, ?_, tw.lg⟩, _, rfl, ?_⟩
    · dsimp only
      rw [List.map_append, tw.lb]; rfl
    · rw [← eB] at PB
      rw [lenG] at PG
      refine pur_agg (mapO_cons rfl (mapO_cons rfl (mapO_cons PT (mapO_cons rfl (mapO_cons (PB.trans ?_) (mapO_cons (PG.trans ?_) (mapO_cons rfl (mapO_cons rfl (mapO_cons rfl rfl)))))))))
      · simp only [Sl.av, ← eB]
      · simp only [Sl.av, lenG]
end
end Go.AM.B

/- What the tower takes. -/
namespace Go.AM.B
noncomputable section
set_option linter.unusedVariables false
set_option linter.unusedSimpArgs false

theorem find_map {α β : Type} (f : α → Int × β) (id : Int) (L : List α) : (L.find? fun a => (f a).1 == id).map f = (L.map f).find? fun p => p.1 == id := by
  induction L with
  | nil => rfl
  | cons a L ih =>
    rw [List.map_cons, List.find?_cons, List.find?_cons]
    cases (f a).1 == id with
    | true => rfl
    | false => exact ih
theorem find_range {β : Type} (F : Nat → β) (id : Int) : ∀ d : Nat, (((List.range d).map fun (j : Nat) => ((j : Int) + 1, F j)).find? fun p => p.1 == id) = if 1 ≤ id ∧ id ≤ d then some (id, F (id - 1).toNat) else none := by
  intro d
  induction d with
  | zero => simp; omega
  | succ d ih =>
    rw [List.range_succ, List.map_append, List.find?_append, ih]
    by_cases h : 1 ≤ id ∧ id ≤ d
    · rw [if_pos h, if_pos (by omega)]; rfl
    · rw [if_neg h]
      by_cases h2 : id = (d : Int) + 1
      · rw [if_pos (by omega)]
        subst h2
        have : ((d : Int) + 1 - 1).toNat = d := by omega
        simp [this]
      · rw [if_neg (by omega)]
        have : (((d : Int) + 1) == id) = false := by simp; omega
        simp [this]
variable {w d l : Nat} {C : Config}
theorem IsTower.blk (h : IsTower w d l C) (id : Int) : blkL C id = if 1 ≤ id ∧ id ≤ d then [jmpI id] else if id = (d : Int) + 1 then List.replicate l zeroI else [] := by
  have e := find_map (fun b : Block => (b.id, b.code.l)) id C.blocks.l
  rw [h.b, List.find?_append, find_range] at e
  have e2 : blkL C id = (((C.blocks.l.find? fun a => a.id == id).map fun b => (b.id, b.code.l)).map (·.2)).getD [] := by unfold blkL; rw [Option.map_map]; rfl
  rw [e2, e]
  by_cases h1 : 1 ≤ id ∧ id ≤ d
  · rw [if_pos h1, if_pos h1]
    have : (((id - 1).toNat : Nat) : Int) + 1 = id := by omega
    rw [this]; rfl
  · rw [if_neg h1, if_neg h1]
    by_cases h2 : id = (d : Int) + 1
    · subst h2; simp
    · have : (((d : Int) + 1) == id) = false := by simp; omega
      simp [this, if_neg h2]
theorem IsTower.grp (h : IsTower w d l C) (id : Int) : ((solve C).group id).map (fun g => (g.id, g.kind, g.buckets.l)) = if 1 ≤ id ∧ id ≤ d then some (id, 1, List.replicate w ⟨0, id + 1⟩) else none := by
  have e := find_map (fun g : Group => (g.id, g.kind, g.buckets.l)) id C.groups.l
  rw [h.g, find_range] at e
  rw [solve_grp]
  refine e.trans ?_
  by_cases h1 : 1 ≤ id ∧ id ≤ d
  · rw [if_pos h1, if_pos h1]
    have : (((id - 1).toNat : Nat) : Int) + 1 = id := by omega
    rw [this]
  · rw [if_neg h1, if_neg h1]
theorem IsTower.grp' (h : IsTower w d l C) (id : Int) : (solve C).buckets id = (if 1 ≤ id ∧ id ≤ d then List.replicate w ⟨0, id + 1⟩ else []) ∧ kindOf ((solve C).group id) = if 1 ≤ id ∧ id ≤ d then 1 else 0 := by
  have e := h.grp id
  unfold Solv.buckets kindOf
  cases hg : (solve C).group id with
  | none =>
    rw [hg] at e
    by_cases h1 : 1 ≤ id ∧ id ≤ d
    · rw [if_pos h1] at e; cases e
    · rw [if_neg h1, if_neg h1]; exact ⟨rfl, rfl⟩
  | some g =>
    rw [hg] at e
    by_cases h1 : 1 ≤ id ∧ id ≤ d
    · rw [if_pos h1] at e ⊢
      simp only [Option.map_some, Option.some.injEq, Prod.mk.injEq] at e
      rw [if_pos h1]
      exact ⟨e.2.2, e.2.1⟩
    · rw [if_neg h1] at e; cases e
theorem IsTower.tab (h : IsTower w d l C) (id : Int) : tabL C id = (if id = 1 then [1] else []) ∧ (C.tables.l.find? fun t => t.id == id).isSome = decide (id = 1) := by
  have e := find_map (fun t : Table => (t.id, t.miss)) id C.tables.l
  rw [h.t] at e
  unfold tabL
  rw [h.e]
  by_cases h1 : id = 1
  · subst h1
    cases hf : C.tables.l.find? (fun t => t.id == 1) with
    | none => rw [hf] at e; simp at e
    | some t =>
      rw [hf] at e
      simp at e
      simp [e.2]
  · have : ((1 : Int) == id) = false := by simp; omega
    cases hf : C.tables.l.find? (fun t => t.id == id) with
    | none => simp [h1]
    | some t => rw [hf] at e; simp [this] at e
theorem IsTower.acc1 (h : IsTower w d l C) : ∀ (m i : Nat), i + m = d → Acc (Rl (solve C)) (1, (i : Int) + 1) := by
  intro m
  induction m with
  | zero =>
    intro i hi
    refine ⟨_, fun y hy => ?_⟩
    have hy' : y ∈ (solve C).leads (1, (i : Int) + 1) := hy
    rw [leads_1, solve_blk, h.blk, if_neg (by omega), if_pos (by omega)] at hy'
    obtain ⟨x, hx, hy'⟩ := List.mem_flatMap.1 hy'
    rw [(List.mem_replicate.1 hx).2] at hy'
    cases hy'
  | succ m ih =>
    intro i hi
    refine ⟨_, fun y hy => ?_⟩
    have hy' : y ∈ (solve C).leads (1, (i : Int) + 1) := hy
    rw [leads_1, solve_blk, h.blk, if_pos (by omega)] at hy'
    have e : y = (2, (i : Int) + 1) := by
      have : y ∈ [((2 : Int), (i : Int) + 1)] := hy'
      simpa using this
    subst e
    refine ⟨_, fun y hy => ?_⟩
    have hy2 : y ∈ (solve C).leads (2, (i : Int) + 1) := hy
    rw [leads_g _ _ (by decide) (by decide), (h.grp' _).1, if_pos (by omega)] at hy2
    obtain ⟨b, hb, rfl⟩ := List.mem_map.1 hy2
    rw [(List.mem_replicate.1 hb).2]
    have := ih (i + 1) (by omega)
    have e2 : ((i + 1 : Nat) : Int) + 1 = (i : Int) + 1 + 1 := by omega
    rw [e2] at this
    exact this
theorem IsTower.acy (h : IsTower w d l C) : B.acy (solve C) := by
  have blk : ∀ z : Int, Acc (Rl (solve C)) (1, z) := by
    intro z
    by_cases hz : 1 ≤ z ∧ z ≤ (d : Int) + 1
    · have := h.acc1 (d - (z - 1).toNat) (z - 1).toNat (by omega)
      have e : (((z - 1).toNat : Nat) : Int) + 1 = z := by omega
      rw [e] at this; exact this
    · refine ⟨_, fun y hy => ?_⟩
      have hy' : y ∈ (solve C).leads (1, z) := hy
      rw [leads_1, solve_blk, h.blk, if_neg (by omega), if_neg (by omega)] at hy'
      cases hy'
  rintro ⟨k, z⟩
  refine ⟨_, fun y hy => ?_⟩
  have hy' : y ∈ (solve C).leads (k, z) := hy
  by_cases h0 : k = 0
  · subst h0
    rw [leads_0] at hy'
    obtain ⟨b, _, rfl⟩ := List.mem_map.1 hy'
    exact blk b
  by_cases h1 : k = 1
  · subst h1; exact (blk z).inv hy
  rw [leads_g _ _ h0 h1] at hy'
  obtain ⟨b, _, rfl⟩ := List.mem_map.1 hy'
  exact blk _
theorem codeV_zero (V : Th → Int) : ∀ l : Nat, (codeV V (List.replicate l zeroI)).getD 0 0 = min 65537 (l : Int) := by
  intro l
  induction l with
  | zero => rfl
  | succ l ih =>
    rw [List.replicate_succ]
    have : (codeV V (zeroI :: List.replicate l zeroI)).getD 0 0 = min over (1 + (codeV V (List.replicate l zeroI)).getD 0 0) := rfl
    rw [this, ih]
    have e : over = 65537 := rfl
    omega
theorem fold_rep {r : Int} (hr : 0 ≤ r) : ∀ (w : Nat) (a : Int), 0 ≤ a → a ≤ 65537 → (List.replicate w r).foldl (fun n r => if (1 : Int) = 1 then min over (n + r) else max n r) a = min 65537 (a + w * r) := by
  intro w
  induction w with
  | zero => intro a h0 h1; simp; omega
  | succ w ih =>
    intro a h0 h1
    have e : over = 65537 := rfl
    rw [List.replicate_succ, List.foldl_cons, if_pos rfl, ih _ (by omega) (by omega)]
    have hm : (0 : Int) ≤ (w : Int) * r := Int.mul_nonneg (by omega) hr
    have : ((w + 1 : Nat) : Int) * r = (w : Int) * r + r := by rw [Int.natCast_add, Int.add_mul]; omega
    rw [this]
    omega
def want (w l : Nat) : Nat → Int
  | 0 => l
  | m + 1 => min 65537 (1 + w * want w l m)
theorem want_bnd (hl : l ≤ 65537) : ∀ m, 0 ≤ want w l m ∧ want w l m ≤ 65537 := by
  intro m
  induction m with
  | zero => simp only [want]; omega
  | succ m ih =>
    have : (0 : Int) ≤ (w : Int) * want w l m := Int.mul_nonneg (by omega) ih.1
    simp only [want]; omega
theorem IsTower.val1 (h : IsTower w d l C) (hl : l ≤ 65537) : ∀ (m i : Nat), i + m = d → val (solve C) (1, (i : Int) + 1) = want w l m := by
  have ha := h.acy
  have hv := val_is ha
  have ho : over = 65537 := rfl
  intro m
  induction m with
  | zero =>
    intro i hi
    rw [hv]
    unfold comb comb0
    rw [if_neg (fun e => by cases e), if_pos rfl, solve_blk, h.blk, if_neg (by omega), if_pos (by omega), codeV_zero]
    simp only [want]; omega
  | succ m ih =>
    intro i hi
    have hb := want_bnd (w := w) hl m
    have e2 : ((i + 1 : Nat) : Int) + 1 = (i : Int) + 1 + 1 := by omega
    have h1 := ih (i + 1) (by omega)
    rw [e2] at h1
    have g : val (solve C) (2, (i : Int) + 1) = min 65537 (w * want w l m) := by
      rw [hv]
      unfold comb comb0
      rw [if_neg (fun e => by cases e), if_neg (fun e => by cases e), (h.grp' _).1, (h.grp' _).2, if_pos (by omega), if_pos (by omega), List.map_replicate]
      dsimp only
      rw [h1, fold_rep hb.1 w 0 (by omega) (by omega)]
      omega
    have hm : (0 : Int) ≤ (w : Int) * want w l m := Int.mul_nonneg (by omega) hb.1
    rw [hv]
    unfold comb comb0
    rw [if_neg (fun e => by cases e), if_pos rfl, solve_blk, h.blk, if_pos (by omega)]
    have : (codeV (val (solve C)) [jmpI ((i : Int) + 1)]).getD 0 0 = min over (1 + val (solve C) (2, (i : Int) + 1)) := rfl
    rw [this, g]
    simp only [want]; omega
theorem IsTower.of (h : IsTower w d l C) (hl : l ≤ 65537) : ofB C = (min 65537 (1 + want w l d), 0) := by
  have ha := h.acy
  have hv := val_is ha
  have ho : over = 65537 := rfl
  have hb := want_bnd (w := w) hl d
  have v1 := h.val1 hl d 0 (by omega)
  have e : bnd (solve C) (0, 1) = (val (solve C) (0, 1), 0) := by simp [bnd, ha]
  have v0 : val (solve C) (0, 1) = min 65537 (want w l d + 1) := by
    rw [hv]
    unfold comb comb0
    rw [if_pos rfl, solve_has, (h.tab 1).2, if_pos (show decide ((1 : Int) = 1) = true from rfl)]
    dsimp only
    rw [solve_tab, (h.tab 1).1, if_pos rfl]
    simp only [List.map_cons, List.map_nil, List.foldl_cons, List.foldl_nil]
    have : val (solve C) (1, 1) = want w l d := v1
    rw [this]
    omega
  have hlo := longB_bnd (l := C.nodes.l) (by rw [h.n]; decide)
  have : C.nodes.l.length = 0 := by rw [h.n]; rfl
  unfold ofB
  rw [e, if_pos rfl, v0]
  have : longB C.nodes.l = 0 := by omega
  rw [this]
  dsimp only
  congr 1
  omega
theorem IsTower.small (h : IsTower w d l C) (hw : w < 10000) (hd : d < 10000) (hl : l < 10000) : Small C := by
  have lt : C.tables.l.length = 1 := by have := congrArg List.length h.t; simpa using this
  have lb : C.blocks.l.length = d + 1 := by have := congrArg List.length h.b; simpa using this
  have lg : C.groups.l.length = d := by have := congrArg List.length h.g; simpa using this
  refine ⟨by rw [h.n]; decide, by rw [h.n]; simp, by omega, by rw [h.e]; decide, by omega, by omega, fun x hx => ?_, fun x hx => ?_⟩
  · have := List.mem_map_of_mem (f := fun b : Block => (b.id, b.code.l)) hx
    rw [h.b] at this
    rcases List.mem_append.1 this with h1 | h1
    · obtain ⟨j, _, e⟩ := List.mem_map.1 h1
      have := (Prod.mk.inj e).2
      rw [← this]; simp
    · simp only [List.mem_singleton, Prod.mk.injEq] at h1
      rw [h1.2, List.length_replicate]; omega
  · have := List.mem_map_of_mem (f := fun g : Group => (g.id, g.kind, g.buckets.l)) hx
    rw [h.g] at this
    obtain ⟨j, _, e⟩ := List.mem_map.1 this
    have := (Prod.mk.inj (Prod.mk.inj e).2).2
    rw [← this, List.length_replicate]; omega
end
end Go.AM.B

/- The law BoundTower. -/
namespace Go.AM.B
open Go.Proofs.Ytebogdeaiecldaa.Tab
noncomputable section
set_option linter.unusedVariables false
set_option linter.unusedSimpArgs false
set_option maxHeartbeats 4000000

theorem u8_rem {a : Int} (h : litOk .u8 a) (m : Int) (hm : 0 < m) (hm2 : m ≤ 256) : ∃ k : Nat, (k : Int) < m ∧ IntKind.wrap .i64 (a.tmod m) = (k : Int) := by
  have h0 : 0 ≤ a := by
    unfold litOk Lit.wf at h
    simp only [Bool.and_eq_true, decide_eq_true_eq] at h
    exact h.1
  have h1 := Int.tmod_nonneg m h0
  have h2 := Int.tmod_lt_of_pos a hm
  generalize a.tmod m = z at h1 h2
  exact ⟨z.toNat, by omega, by rw [wrap64 (by omega) (by omega)]; omega⟩
theorem want_succ (w l m : Nat) : want w l (m + 1) = min 65537 (1 + w * want w l m) := rfl
theorem towerL_c (a b c : Int) (ka : litOk .u8 a) (kb : litOk .u8 b) (kc : litOk .u8 c) : VC1 T 9 [.int .u8 a, .int .u8 b, .int .u8 c] (.bool true) := by
  have l3 := awake_c
  obtain ⟨w, hw, ew⟩ := u8_rem ka 17 (by decide) (by decide)
  obtain ⟨d, hd, ed⟩ := u8_rem kb 33 (by decide) (by decide)
  obtain ⟨l, hl, el⟩ := u8_rem kc 33 (by decide) (by decide)
  obtain ⟨C, hC, h24⟩ := tower_c w d l (by omega) (by omega) (by omega)
  have hof := hC.of (by omega)
  have hofc := ofc_c C (hC.small (by omega) (by omega) (by omega))
  rw [hof] at hofc
  have hb := fun m => want_bnd (w := w) (l := l) (by omega) m
  refine VC1.of (vf := v9) rfl rfl ?_
  unfold v9
  repeat (first | refine W.seq ?_ | refine W.ops ?_ | refine WL.off rfl rfl ?_ | refine WL.val rfl rfl rfl ?_ | refine WL.nil ?_ | refine W.block ?_ | refine W.outBlock ?_ | refine W.skip ?_ | refine W.exit rfl ?_ | refine WL.box rfl rfl rfl ?_ | refine W.opsD ?_ | refine W.condT rfl ?_ | refine W.condF rfl ?_)
  rw [ew, ed, el]
  refine WL.pure rfl rfl rfl h24 rfl ?_
  repeat (first | refine W.seq ?_ | refine W.ops ?_ | refine WL.off rfl rfl ?_ | refine WL.val rfl rfl rfl ?_ | refine WL.nil ?_ | refine W.block ?_ | refine W.outBlock ?_ | refine W.skip ?_ | refine W.exit rfl ?_ | refine WL.box rfl rfl rfl ?_ | refine W.opsD ?_ | refine W.condT rfl ?_ | refine W.condF rfl ?_)
  refine WL.view rfl rfl rfl hofc rfl rfl ?_
  repeat (first | refine W.seq ?_ | refine W.ops ?_ | refine WL.off rfl rfl ?_ | refine WL.val rfl rfl rfl ?_ | refine WL.nil ?_ | refine W.block ?_ | refine W.outBlock ?_ | refine W.skip ?_ | refine W.exit rfl ?_ | refine WL.box rfl rfl rfl ?_ | refine W.opsD ?_ | refine W.condT rfl ?_ | refine W.condF rfl ?_)
  refine W.loopE (E0 := envOf [(7, _), (8, _), (10, _), (11, _), (12, _), (13, _)]) rfl (β := Nat) (fun b => [(12, .v (.int .i64 (want w l b))), (13, .v (.int .i64 b))])
    (fun b h n => b ≤ d) (fun b => d - b) 0 rfl (by simp) ?_
  rintro i h n hi ih
  repeat (first | refine W.seq ?_ | refine W.ops ?_ | refine WL.off rfl rfl ?_ | refine WL.val rfl rfl rfl ?_ | refine WL.nil ?_ | refine W.block ?_ | refine W.outBlock ?_ | refine W.skip ?_ | refine W.exit rfl ?_ | refine WL.box rfl rfl rfl ?_ | refine W.opsD ?_ | refine W.condT rfl ?_ | refine W.condF rfl ?_)
  refine W.condS rfl (fun hb2 => ?_) (fun hb2 => ?_)
  · have hlt : i < d := by have := of_decide_eq_true hb2; omega
    repeat (first | refine W.seq ?_ | refine W.ops ?_ | refine WL.off rfl rfl ?_ | refine WL.val rfl rfl rfl ?_ | refine WL.nil ?_ | refine W.block ?_ | refine W.outBlock ?_ | refine W.skip ?_ | refine W.exit rfl ?_ | refine WL.box rfl rfl rfl ?_ | refine W.opsD ?_ | refine W.condT rfl ?_ | refine W.condF rfl ?_)
    have hbi := hb i
    have hm : (0 : Int) ≤ (w : Int) * want w l i := Int.mul_nonneg (by omega) hbi.1
    have hm2 : (w : Int) * want w l i ≤ 17 * 65537 := Int.le_trans (Int.mul_le_mul_of_nonneg_right (by omega) hbi.1) (Int.mul_le_mul_of_nonneg_left hbi.2 (by decide))
    have ez : min 65537 (IntKind.wrap .i64 (1 + IntKind.wrap .i64 (w * want w l i))) = want w l (i + 1) := by
      rw [wrap64 (n := (w : Int) * want w l i) (by omega) (by omega), wrap64 (by omega) (by omega), want_succ]
    refine ih (i + 1) _ _ _ hlt (by omega) (by rw [← wrap64_nat (k := i) (by omega), ← ez]; rfl)
  · clear ih
    have hge : i = d := by have := of_decide_eq_false hb2; omega
    subst hge
    have hbi := hb i
    repeat (first | refine W.seq ?_ | refine W.ops ?_ | refine WL.off rfl rfl ?_ | refine WL.val rfl rfl rfl ?_ | refine WL.nil ?_ | refine W.block ?_ | refine W.outBlock ?_ | refine W.skip ?_ | refine W.exit rfl ?_ | refine WL.box rfl rfl rfl ?_ | refine W.opsD ?_ | refine W.condT rfl ?_ | refine W.condF rfl ?_)
    have ez : IntKind.wrap .i64 (1 + want w l i) = 1 + want w l i := wrap64 (by omega) (by omega)
    rw [ez]
    refine WL.splitG rfl (fun g => ?_) (fun g => ?_)
    · repeat (first | refine W.seq ?_ | refine W.ops ?_ | refine WL.off rfl rfl ?_ | refine WL.val rfl rfl rfl ?_ | refine WL.nil ?_ | refine W.block ?_ | refine W.outBlock ?_ | refine W.skip ?_ | refine W.exit rfl ?_ | refine WL.box rfl rfl rfl ?_ | refine W.opsD ?_ | refine W.condT rfl ?_ | refine W.condF rfl ?_)
      refine WL.view rfl rfl rfl l3 rfl rfl ?_
      repeat (first | refine W.seq ?_ | refine W.ops ?_ | refine WL.off rfl rfl ?_ | refine WL.val rfl rfl rfl ?_ | refine WL.nil ?_ | refine W.block ?_ | refine W.outBlock ?_ | refine W.skip ?_ | refine W.exit rfl ?_ | refine WL.box rfl rfl rfl ?_ | refine W.opsD ?_ | refine W.condT rfl ?_ | refine W.condF rfl ?_)
      exact W.ret ⟨_, rfl, rfl⟩
    · simp at g
end
end Go.AM.B

/- The law BoundNames: its helpers. -/
namespace Go.AM.B
open Go.Proofs.Ytebogdeaiecldaa.Tab
noncomputable section
set_option linter.unusedVariables false
set_option linter.unusedSimpArgs false
set_option maxHeartbeats 4000000

theorem is_c (n e m : Int) : VC1 T 23 [.int .i64 n, .int .i64 e, .int .i64 m] (.bool (e == 0 && n == m)) := by
  refine VC1.of (vf := v23) rfl rfl ?_
  unfold v23
  repeat (first | refine W.seq ?_ | refine W.ops ?_ | refine WL.off rfl rfl ?_ | refine WL.val rfl rfl rfl ?_ | refine WL.nil ?_ | refine W.block ?_ | refine W.outBlock ?_ | refine W.skip ?_ | refine W.exit rfl ?_ | refine WL.box rfl rfl rfl ?_ | refine W.opsD ?_ | refine W.condT rfl ?_ | refine W.condF rfl ?_)
  refine WL.splitG rfl (fun g => ?_) (fun g => ?_)
  · have g' : (e == 0) = true := by simpa using g
    repeat (first | refine W.seq ?_ | refine W.ops ?_ | refine WL.off rfl rfl ?_ | refine WL.val rfl rfl rfl ?_ | refine WL.nil ?_ | refine W.block ?_ | refine W.outBlock ?_ | refine W.skip ?_ | refine W.exit rfl ?_ | refine WL.box rfl rfl rfl ?_ | refine W.opsD ?_ | refine W.condT rfl ?_ | refine W.condF rfl ?_)
    refine W.ret ⟨_, rfl, retB ?_⟩
    rw [g']; rfl
  · have g' : (e == 0) = false := by simpa using g
    repeat (first | refine W.seq ?_ | refine W.ops ?_ | refine WL.off rfl rfl ?_ | refine WL.val rfl rfl rfl ?_ | refine WL.nil ?_ | refine W.block ?_ | refine W.outBlock ?_ | refine W.skip ?_ | refine W.exit rfl ?_ | refine WL.box rfl rfl rfl ?_ | refine W.opsD ?_ | refine W.condT rfl ?_ | refine W.condF rfl ?_)
    refine W.ret ⟨_, rfl, retB ?_⟩
    rw [g']; rfl
def mkI (op : Int) : Instr := ⟨op, 0, 0, 0, 0, 0, if op = 12 ∨ op = 13 ∨ op = 14 then 1 else 0⟩
theorem codes_c (L : List Int) (q : Bool) (e : Nat) (hL : 0 < L.length) (hs : L.length < 1000) :
    CallsTo T 22 [.pslice (L.flatMap encU8) L.length e q] Heap.empty 0 fun r h' _ => ∃ o ds, r = .slice o 0 L.length 7 false ∧ h'.get o = some (.cells ds) ∧ AM.mapO (AM.pur purLimit (h'.del o)) ds = some ((L.map mkI).flatMap Instr.enc) := by
  refine CallsTo.of (vf := v22) rfl rfl ?_
  unfold v22
  repeat (first | refine W.seq ?_ | refine W.ops ?_ | refine WL.off rfl rfl ?_ | refine WL.val rfl rfl rfl ?_ | refine WL.nil ?_ | refine W.block ?_ | refine W.outBlock ?_ | refine W.skip ?_ | refine W.exit rfl ?_ | refine WL.box rfl rfl rfl ?_ | refine W.opsD ?_ | refine W.condT rfl ?_ | refine W.condF rfl ?_)
  refine W.loopE (E0 := envOf [(0, _), (3, _), (4, _)]) rfl (β := Nat × AV) (fun b => [(3, .v b.2), (4, .v (.int .i64 (b.1 : Int)))])
    (fun b h n => b.1 ≤ L.length ∧ OwnS h 7 (((L.take b.1).map mkI).flatMap Instr.enc) b.1 b.2 ∧ Fresh h n ∧ (0 < b.1 → ∃ o, b.2 = .slice o 0 b.1 7 false)) (fun b => L.length - b.1) (0, .nils) rfl ⟨by simp, .nil _ _, Fresh.empty _, fun h => absurd h (by decide)⟩ ?_
  rintro ⟨i, v⟩ h n ⟨hi, ov, fr, hv⟩ ih
  dsimp only at hi ov hv
  have hnj := ov.nj
  repeat (first | refine W.seq ?_ | refine W.ops ?_ | refine WL.off rfl rfl ?_ | refine WL.val rfl rfl rfl ?_ | refine WL.nil ?_ | refine W.block ?_ | refine W.outBlock ?_ | refine W.skip ?_ | refine W.exit rfl ?_ | refine WL.box rfl rfl rfl ?_ | refine W.opsD ?_ | refine W.condT rfl ?_ | refine W.condF rfl ?_)
  refine W.condS rfl (fun hb2 => ?_) (fun hb2 => ?_)
  · have hlt : i < L.length := by have := of_decide_eq_true hb2; dsimp only at this; omega
    repeat (first | refine W.seq ?_ | refine W.ops ?_ | refine WL.off rfl rfl ?_ | refine WL.val rfl rfl rfl ?_ | refine WL.nil ?_ | refine W.block ?_ | refine W.outBlock ?_ | refine W.skip ?_ | refine W.exit rfl ?_ | refine WL.box rfl rfl rfl ?_ | refine W.opsD ?_ | refine W.condT rfl ?_ | refine W.condF rfl ?_)
    refine WL.val rfl (aop_iaddr_p rfl rfl hlt) rfl ?_
    repeat (first | refine W.seq ?_ | refine W.ops ?_ | refine WL.off rfl rfl ?_ | refine WL.val rfl rfl rfl ?_ | refine WL.nil ?_ | refine W.block ?_ | refine W.outBlock ?_ | refine W.skip ?_ | refine W.exit rfl ?_ | refine WL.box rfl rfl rfl ?_ | refine W.opsD ?_ | refine W.condT rfl ?_ | refine W.condF rfl ?_)
    refine WL.val rfl (aop_load_el (enc := encU8) (o := 0) rfl (fun _ => rfl) hlt (by decide) rfl) rfl ?_
    repeat (first | refine W.seq ?_ | refine W.ops ?_ | refine WL.off rfl rfl ?_ | refine WL.val rfl rfl rfl ?_ | refine WL.nil ?_ | refine W.block ?_ | refine W.outBlock ?_ | refine W.skip ?_ | refine W.exit rfl ?_ | refine WL.box rfl rfl rfl ?_ | refine W.opsD ?_ | refine W.condT rfl ?_ | refine W.condF rfl ?_)
    refine WL.val rfl (aop_iaddr_p rfl rfl hlt) rfl ?_
    repeat (first | refine W.seq ?_ | refine W.ops ?_ | refine WL.off rfl rfl ?_ | refine WL.val rfl rfl rfl ?_ | refine WL.nil ?_ | refine W.block ?_ | refine W.outBlock ?_ | refine W.skip ?_ | refine W.exit rfl ?_ | refine WL.box rfl rfl rfl ?_ | refine W.opsD ?_ | refine W.condT rfl ?_ | refine W.condF rfl ?_)
    refine WL.val rfl (aop_load_el (enc := encU8) (o := 0) rfl (fun _ => rfl) hlt (by decide) rfl) rfl ?_
    repeat (first | refine W.seq ?_ | refine W.ops ?_ | refine WL.off rfl rfl ?_ | refine WL.val rfl rfl rfl ?_ | refine WL.nil ?_ | refine W.block ?_ | refine W.outBlock ?_ | refine W.skip ?_ | refine W.exit rfl ?_ | refine WL.box rfl rfl rfl ?_ | refine W.opsD ?_ | refine W.condT rfl ?_ | refine W.condF rfl ?_)
    refine WL.splitG rfl (fun g4 => ?_) (fun g4 => ?_)
    · have g4' : L[i] = 12 := by simpa using g4
      repeat (first | refine W.seq ?_ | refine W.ops ?_ | refine WL.off rfl rfl ?_ | refine WL.val rfl rfl rfl ?_ | refine WL.nil ?_ | refine W.block ?_ | refine W.outBlock ?_ | refine W.skip ?_ | refine W.exit rfl ?_ | refine WL.box rfl rfl rfl ?_ | refine W.opsD ?_ | refine W.condT rfl ?_ | refine W.condF rfl ?_)
      refine WL.val rfl (aop_move_nj rfl hnj) rfl ?_
      repeat (first | refine W.seq ?_ | refine W.ops ?_ | refine WL.off rfl rfl ?_ | refine WL.val rfl rfl rfl ?_ | refine WL.nil ?_ | refine W.block ?_ | refine W.outBlock ?_ | refine W.skip ?_ | refine W.exit rfl ?_ | refine WL.box rfl rfl rfl ?_ | refine W.opsD ?_ | refine W.condT rfl ?_ | refine W.condF rfl ?_)
      refine WL.pushG (v := v) (len := i) rfl rfl rfl rfl rfl rfl (by decide) rfl ov (fun j hj e => ?_) rfl (by omega) rfl (fun _ _ _ => rfl) ?_
      · have := OwnS.lt ov fr j hj
        rw [e] at this; exact absurd this (by dsimp only; omega)
      intro rd wr H1 oh1 of1 fr1
      repeat (first | refine W.seq ?_ | refine W.ops ?_ | refine WL.off rfl rfl ?_ | refine WL.val rfl rfl rfl ?_ | refine WL.nil ?_ | refine W.block ?_ | refine W.outBlock ?_ | refine W.skip ?_ | refine W.exit rfl ?_ | refine WL.box rfl rfl rfl ?_ | refine W.opsD ?_ | refine W.condT rfl ?_ | refine W.condF rfl ?_)
      refine ih (i + 1, .slice (_, _) 0 (i + 1) 7 false) _ _ _ ⟨hlt, ?_, fr1 _ (by omega) (fr.mono (by omega)), fun _ => ⟨_, rfl⟩⟩ (by dsimp only; omega) (by rw [← wrap64_nat (k := i) (by omega)]; rfl)
      dsimp only
      rw [List.take_succ_eq_append_getElem hlt, List.map_append, List.flatMap_append]
      have : [L[i]].map mkI = [⟨L[i], 0, 0, 0, 0, 0, 1⟩] := by simp [mkI, g4']
      rw [this]
      exact oh1
    have g4' : L[i] ≠ 12 := by simpa using g4
    repeat (first | refine W.seq ?_ | refine W.ops ?_ | refine WL.off rfl rfl ?_ | refine WL.val rfl rfl rfl ?_ | refine WL.nil ?_ | refine W.block ?_ | refine W.outBlock ?_ | refine W.skip ?_ | refine W.exit rfl ?_ | refine WL.box rfl rfl rfl ?_ | refine W.opsD ?_ | refine W.condT rfl ?_ | refine W.condF rfl ?_)
    refine WL.val rfl (aop_iaddr_p rfl rfl hlt) rfl ?_
    repeat (first | refine W.seq ?_ | refine W.ops ?_ | refine WL.off rfl rfl ?_ | refine WL.val rfl rfl rfl ?_ | refine WL.nil ?_ | refine W.block ?_ | refine W.outBlock ?_ | refine W.skip ?_ | refine W.exit rfl ?_ | refine WL.box rfl rfl rfl ?_ | refine W.opsD ?_ | refine W.condT rfl ?_ | refine W.condF rfl ?_)
    refine WL.val rfl (aop_load_el (enc := encU8) (o := 0) rfl (fun _ => rfl) hlt (by decide) rfl) rfl ?_
    repeat (first | refine W.seq ?_ | refine W.ops ?_ | refine WL.off rfl rfl ?_ | refine WL.val rfl rfl rfl ?_ | refine WL.nil ?_ | refine W.block ?_ | refine W.outBlock ?_ | refine W.skip ?_ | refine W.exit rfl ?_ | refine WL.box rfl rfl rfl ?_ | refine W.opsD ?_ | refine W.condT rfl ?_ | refine W.condF rfl ?_)
    refine WL.splitG rfl (fun g5 => ?_) (fun g5 => ?_)
    · have g5' : L[i] = 13 := by simpa using g5
      repeat (first | refine W.seq ?_ | refine W.ops ?_ | refine WL.off rfl rfl ?_ | refine WL.val rfl rfl rfl ?_ | refine WL.nil ?_ | refine W.block ?_ | refine W.outBlock ?_ | refine W.skip ?_ | refine W.exit rfl ?_ | refine WL.box rfl rfl rfl ?_ | refine W.opsD ?_ | refine W.condT rfl ?_ | refine W.condF rfl ?_)
      refine WL.val rfl (aop_move_nj rfl hnj) rfl ?_
      repeat (first | refine W.seq ?_ | refine W.ops ?_ | refine WL.off rfl rfl ?_ | refine WL.val rfl rfl rfl ?_ | refine WL.nil ?_ | refine W.block ?_ | refine W.outBlock ?_ | refine W.skip ?_ | refine W.exit rfl ?_ | refine WL.box rfl rfl rfl ?_ | refine W.opsD ?_ | refine W.condT rfl ?_ | refine W.condF rfl ?_)
      refine WL.pushG (v := v) (len := i) rfl rfl rfl rfl rfl rfl (by decide) rfl ov (fun j hj e => ?_) rfl (by omega) rfl (fun _ _ _ => rfl) ?_
      · have := OwnS.lt ov fr j hj
        rw [e] at this; exact absurd this (by dsimp only; omega)
      intro rd wr H1 oh1 of1 fr1
      repeat (first | refine W.seq ?_ | refine W.ops ?_ | refine WL.off rfl rfl ?_ | refine WL.val rfl rfl rfl ?_ | refine WL.nil ?_ | refine W.block ?_ | refine W.outBlock ?_ | refine W.skip ?_ | refine W.exit rfl ?_ | refine WL.box rfl rfl rfl ?_ | refine W.opsD ?_ | refine W.condT rfl ?_ | refine W.condF rfl ?_)
      refine ih (i + 1, .slice (_, _) 0 (i + 1) 7 false) _ _ _ ⟨hlt, ?_, fr1 _ (by omega) (fr.mono (by omega)), fun _ => ⟨_, rfl⟩⟩ (by dsimp only; omega) (by rw [← wrap64_nat (k := i) (by omega)]; rfl)
      dsimp only
      rw [List.take_succ_eq_append_getElem hlt, List.map_append, List.flatMap_append]
      have : [L[i]].map mkI = [⟨L[i], 0, 0, 0, 0, 0, 1⟩] := by simp [mkI, g5']
      rw [this]
      exact oh1
    have g5' : L[i] ≠ 13 := by simpa using g5
    repeat (first | refine W.seq ?_ | refine W.ops ?_ | refine WL.off rfl rfl ?_ | refine WL.val rfl rfl rfl ?_ | refine WL.nil ?_ | refine W.block ?_ | refine W.outBlock ?_ | refine W.skip ?_ | refine W.exit rfl ?_ | refine WL.box rfl rfl rfl ?_ | refine W.opsD ?_ | refine W.condT rfl ?_ | refine W.condF rfl ?_)
    refine WL.val rfl (aop_iaddr_p rfl rfl hlt) rfl ?_
    repeat (first | refine W.seq ?_ | refine W.ops ?_ | refine WL.off rfl rfl ?_ | refine WL.val rfl rfl rfl ?_ | refine WL.nil ?_ | refine W.block ?_ | refine W.outBlock ?_ | refine W.skip ?_ | refine W.exit rfl ?_ | refine WL.box rfl rfl rfl ?_ | refine W.opsD ?_ | refine W.condT rfl ?_ | refine W.condF rfl ?_)
    refine WL.val rfl (aop_load_el (enc := encU8) (o := 0) rfl (fun _ => rfl) hlt (by decide) rfl) rfl ?_
    repeat (first | refine W.seq ?_ | refine W.ops ?_ | refine WL.off rfl rfl ?_ | refine WL.val rfl rfl rfl ?_ | refine WL.nil ?_ | refine W.block ?_ | refine W.outBlock ?_ | refine W.skip ?_ | refine W.exit rfl ?_ | refine WL.box rfl rfl rfl ?_ | refine W.opsD ?_ | refine W.condT rfl ?_ | refine W.condF rfl ?_)
    refine W.condS rfl (fun g6 => ?_) (fun g6 => ?_)
    · have g6' : L[i] = 14 := by simpa using g6
      repeat (first | refine W.seq ?_ | refine W.ops ?_ | refine WL.off rfl rfl ?_ | refine WL.val rfl rfl rfl ?_ | refine WL.nil ?_ | refine W.block ?_ | refine W.outBlock ?_ | refine W.skip ?_ | refine W.exit rfl ?_ | refine WL.box rfl rfl rfl ?_ | refine W.opsD ?_ | refine W.condT rfl ?_ | refine W.condF rfl ?_)
      refine WL.val rfl (aop_move_nj rfl hnj) rfl ?_
      repeat (first | refine W.seq ?_ | refine W.ops ?_ | refine WL.off rfl rfl ?_ | refine WL.val rfl rfl rfl ?_ | refine WL.nil ?_ | refine W.block ?_ | refine W.outBlock ?_ | refine W.skip ?_ | refine W.exit rfl ?_ | refine WL.box rfl rfl rfl ?_ | refine W.opsD ?_ | refine W.condT rfl ?_ | refine W.condF rfl ?_)
      refine WL.pushG (v := v) (len := i) rfl rfl rfl rfl rfl rfl (by decide) rfl ov (fun j hj e => ?_) rfl (by omega) rfl (fun _ _ _ => rfl) ?_
      · have := OwnS.lt ov fr j hj
        rw [e] at this; exact absurd this (by dsimp only; omega)
      intro rd wr H1 oh1 of1 fr1
      repeat (first | refine W.seq ?_ | refine W.ops ?_ | refine WL.off rfl rfl ?_ | refine WL.val rfl rfl rfl ?_ | refine WL.nil ?_ | refine W.block ?_ | refine W.outBlock ?_ | refine W.skip ?_ | refine W.exit rfl ?_ | refine WL.box rfl rfl rfl ?_ | refine W.opsD ?_ | refine W.condT rfl ?_ | refine W.condF rfl ?_)
      refine ih (i + 1, .slice (_, _) 0 (i + 1) 7 false) _ _ _ ⟨hlt, ?_, fr1 _ (by omega) (fr.mono (by omega)), fun _ => ⟨_, rfl⟩⟩ (by dsimp only; omega) (by rw [← wrap64_nat (k := i) (by omega)]; rfl)
      dsimp only
      rw [List.take_succ_eq_append_getElem hlt, List.map_append, List.flatMap_append]
      have : [L[i]].map mkI = [⟨L[i], 0, 0, 0, 0, 0, 1⟩] := by simp [mkI, g6']
      rw [this]
      exact oh1
    have g6' : L[i] ≠ 14 := by simpa using g6
    repeat (first | refine W.seq ?_ | refine W.ops ?_ | refine WL.off rfl rfl ?_ | refine WL.val rfl rfl rfl ?_ | refine WL.nil ?_ | refine W.block ?_ | refine W.outBlock ?_ | refine W.skip ?_ | refine W.exit rfl ?_ | refine WL.box rfl rfl rfl ?_ | refine W.opsD ?_ | refine W.condT rfl ?_ | refine W.condF rfl ?_)
    refine WL.val rfl (aop_move_nj rfl hnj) rfl ?_
    repeat (first | refine W.seq ?_ | refine W.ops ?_ | refine WL.off rfl rfl ?_ | refine WL.val rfl rfl rfl ?_ | refine WL.nil ?_ | refine W.block ?_ | refine W.outBlock ?_ | refine W.skip ?_ | refine W.exit rfl ?_ | refine WL.box rfl rfl rfl ?_ | refine W.opsD ?_ | refine W.condT rfl ?_ | refine W.condF rfl ?_)
    refine WL.pushG (v := v) (len := i) rfl rfl rfl rfl rfl rfl (by decide) rfl ov (fun j hj e => ?_) rfl (by omega) rfl (fun _ _ _ => rfl) ?_
    · have := OwnS.lt ov fr j hj
      rw [e] at this; exact absurd this (by dsimp only; omega)
    intro rd wr H1 oh1 of1 fr1
    repeat (first | refine W.seq ?_ | refine W.ops ?_ | refine WL.off rfl rfl ?_ | refine WL.val rfl rfl rfl ?_ | refine WL.nil ?_ | refine W.block ?_ | refine W.outBlock ?_ | refine W.skip ?_ | refine W.exit rfl ?_ | refine WL.box rfl rfl rfl ?_ | refine W.opsD ?_ | refine W.condT rfl ?_ | refine W.condF rfl ?_)
    refine ih (i + 1, .slice (_, _) 0 (i + 1) 7 false) _ _ _ ⟨hlt, ?_, fr1 _ (by omega) (fr.mono (by omega)), fun _ => ⟨_, rfl⟩⟩ (by dsimp only; omega) (by rw [← wrap64_nat (k := i) (by omega)]; rfl)
    dsimp only
    rw [List.take_succ_eq_append_getElem hlt, List.map_append, List.flatMap_append]
    have : [L[i]].map mkI = [⟨L[i], 0, 0, 0, 0, 0, 0⟩] := by simp [mkI, g4', g5', g6']
    rw [this]
    exact oh1
  · clear ih
    have hge : i = L.length := by have := of_decide_eq_false hb2; dsimp only at this; omega
    subst hge
    obtain ⟨o, rfl⟩ := hv hL
    rw [List.take_length] at ov
    repeat (first | refine W.seq ?_ | refine W.ops ?_ | refine WL.off rfl rfl ?_ | refine WL.val rfl rfl rfl ?_ | refine WL.nil ?_ | refine W.block ?_ | refine W.outBlock ?_ | refine W.skip ?_ | refine W.exit rfl ?_ | refine WL.box rfl rfl rfl ?_ | refine W.opsD ?_ | refine W.condT rfl ?_ | refine W.condF rfl ?_)
    rcases ov with ⟨h1, _⟩ | ⟨o', clip, h1, h2, h3⟩
    · cases h1
    · cases h1
      refine W.ret ⟨_, rfl, o, _, rfl, h2, pur_scal_all _ _ _ ?_⟩
      intro a ha; obtain ⟨x, _, ha⟩ := List.mem_flatMap.1 ha; simp only [Instr.enc, List.mem_cons, List.not_mem_nil, or_false] at ha; rcases ha with rfl | rfl | rfl | rfl | rfl | rfl | rfl <;> rfl
end
end Go.AM.B

/- The law BoundNames: the configurations it names. -/
namespace Go.AM.B
noncomputable section
set_option linter.unusedVariables false
set_option linter.unusedSimpArgs false

def s0 {α : Type} : Sl α := ⟨[], true, 0⟩
theorem acy_flat {c : Config} (hb : ∀ id, (blkL c id).flatMap instrLead = []) (hg : c.groups.l = []) : acy (solve c) := by
  have blk : ∀ z : Int, Acc (Rl (solve c)) (1, z) := by
    intro z
    refine ⟨_, fun y hy => ?_⟩
    have hy' : y ∈ (solve c).leads (1, z) := hy
    rw [leads_1, solve_blk, hb] at hy'
    cases hy'
  rintro ⟨k, z⟩
  refine ⟨_, fun y hy => ?_⟩
  have hy' : y ∈ (solve c).leads (k, z) := hy
  by_cases h0 : k = 0
  · subst h0
    rw [leads_0] at hy'
    obtain ⟨b, _, rfl⟩ := List.mem_map.1 hy'
    exact blk b
  by_cases h1 : k = 1
  · subst h1; exact (blk z).inv hy
  rw [leads_g _ _ h0 h1] at hy'
  obtain ⟨b, _, rfl⟩ := List.mem_map.1 hy'
  exact blk _
theorem ofB_acy {c : Config} (ha : acy (solve c)) : ofB c = (min 65537 (val (solve c) (0, 1) + longB c.nodes.l), 0) := by
  have e : bnd (solve c) (0, 1) = (val (solve c) (0, 1), 0) := by simp [bnd, ha]
  unfold ofB
  rw [e, if_pos rfl]
theorem val_1 {c : Config} (ha : acy (solve c)) (z : Int) : val (solve c) (1, z) = min over ((codeV (val (solve c)) (blkL c z)).getD 0 0) := by
  rw [val_is ha]
  unfold comb comb0
  rw [if_neg (fun e => by cases e), if_pos rfl, solve_blk]
theorem val_0 {c : Config} (ha : acy (solve c)) : val (solve c) (0, 1) = min over (if (c.tables.l.find? fun t => t.id == 1).isSome then ((tabL c 1).map fun b => val (solve c) (1, b)).foldl max 0 + 1 else ((tabL c 1).map fun b => val (solve c) (1, b)).foldl max 0) := by
  rw [val_is ha]
  unfold comb comb0
  rw [if_pos rfl, solve_has]
  dsimp only
  rw [solve_tab]
theorem longB_nil : longB [] = 0 := by
  have := longB_bnd (l := []) (by decide)
  have e : ([] : List Node).length = 0 := rfl
  omega
def E0 : Config := ⟨s0, s0, s0, s0, s0, s0, s0, s0, s0⟩
theorem E0_of : ofB E0 = (0, 0) := by
  have ha : acy (solve E0) := acy_flat (fun _ => rfl) rfl
  rw [ofB_acy ha, val_0 ha]
  show (min 65537 (_ + longB []), 0) = _
  rw [longB_nil]
  rfl
def nd (id other : Int) : Node := ⟨id, 0, 0, 0, 0, 0, 0, s0, other⟩
def l3 : List Node := [nd 1 2, nd 2 0, nd 3 0]
def C1 : Config := ⟨⟨l3, true, 9⟩, s0, s0, s0, s0, s0, s0, s0, s0⟩
theorem l3_find (id : Int) : findN l3 id = if id = 1 then some (nd 1 2) else if id = 2 then some (nd 2 0) else if id = 3 then some (nd 3 0) else none := by
  unfold findN l3
  by_cases h1 : id = 1
  · subst h1; rfl
  by_cases h2 : id = 2
  · subst h2; rfl
  by_cases h3 : id = 3
  · subst h3; rfl
  have e1 : ((1 : Int) == id) = false := by simp; omega
  have e2 : ((2 : Int) == id) = false := by simp; omega
  have e3 : ((3 : Int) == id) = false := by simp; omega
  simp [h1, h2, h3, nd, e1, e2, e3]
theorem l3_acy : acyG l3 := by
  have zero : Acc (Rg l3) 0 := ⟨_, fun y hy => by
    have hy' : y ∈ nexts l3 0 := hy
    unfold nexts at hy'
    rw [l3_find, if_neg (by decide), if_neg (by decide), if_neg (by decide)] at hy'
    cases hy'⟩
  have leaf : ∀ z : Int, z ≠ 1 → Acc (Rg l3) z := by
    intro z hz
    refine ⟨_, fun y hy => ?_⟩
    have hy' : y ∈ nexts l3 z := hy
    unfold nexts at hy'
    rw [l3_find, if_neg hz] at hy'
    by_cases h2 : z = 2
    · rw [if_pos h2] at hy'
      have : y = 0 := by simpa [goesL, nd, s0] using hy'
      rw [this]; exact zero
    by_cases h3 : z = 3
    · rw [if_neg h2, if_pos h3] at hy'
      have : y = 0 := by simpa [goesL, nd, s0] using hy'
      rw [this]; exact zero
    rw [if_neg h2, if_neg h3] at hy'
    cases hy'
  intro id
  by_cases h : id = 1
  · subst h
    refine ⟨_, fun y hy => leaf y ?_⟩
    have hy' : y ∈ goesL (nd 1 2) := hy
    have : y = 2 := by simpa [goesL, nd, s0] using hy'
    omega
  · exact leaf id h
theorem nd_form {id other : Int} (h1 : 1 ≤ id) (h2 : id ≤ 65534) (h3 : toB other = true) : formB (nd id other) = true :=
  dB_iff.2 ⟨h1, h2, by simp [nd], by simp [nd], h3, by simp [nd, s0], rfl, rfl, rfl, fun i => by
    unfold armOk
    intro hi
    exact absurd hi (by simp [nd, s0])⟩
theorem l3_forms : formsB l3 = true := by
  refine dB_iff.2 fun i hi => ?_
  have : l3.length = 3 := rfl
  match i, hi with
  | 0, _ => exact ⟨nd_form (by decide) (by decide) rfl, fun h => absurd h (by decide)⟩
  | 1, _ => exact ⟨nd_form (by decide) (by decide) rfl, fun _ _ => by show (1 : Int) < 2; decide⟩
  | 2, _ => exact ⟨nd_form (by decide) (by decide) rfl, fun _ _ => by show (2 : Int) < 3; decide⟩
  | n + 3, h => exact absurd h (by omega)
theorem l3_refs : refsB l3 = true := by
  refine dB_iff.2 fun x hx id hid => ?_
  simp only [l3, List.mem_cons, List.not_mem_nil, or_false] at hx
  unfold refOk
  rw [l3_find]
  rcases hx with rfl | rfl | rfl
  · have : id = 2 := by simpa [goesL, nd, s0] using hid
    subst this; exact .inl rfl
  · have : id = 0 := by simpa [goesL, nd, s0] using hid
    exact .inr (.inl this)
  · have : id = 0 := by simpa [goesL, nd, s0] using hid
    exact .inr (.inl this)
theorem l3_long : longB l3 = 2 := by
  have hm : mayE l3 = 0 := by
    unfold mayE
    rw [l3_forms, l3_refs, dB_iff.2 l3_acy]
    rfl
  unfold longB
  rw [if_pos hm]
  have hr := rank_is l3_acy
  have r0 : rank l3 0 = 0 := by
    rw [hr]; unfold rankOf; rw [l3_find, if_neg (by decide), if_neg (by decide), if_neg (by decide)]
  have r2 : rank l3 2 = 1 := by
    rw [hr]; unfold rankOf; rw [l3_find, if_neg (by decide), if_pos rfl]
    have g : goesL (nd 2 0) = [0] := rfl
    simp only [g, List.map_cons, List.map_nil, List.foldl_cons, List.foldl_nil, r0]
    rfl
  have r1 : rank l3 1 = ((goesL (nd 1 2)).map (rank l3)).foldl max 0 + 1 := by
    rw [hr]; unfold rankOf; rw [l3_find]; rfl
  have g : goesL (nd 1 2) = [2] := rfl
  rw [r1, g]
  show max 0 (rank l3 2) + 1 = 2
  rw [r2]; rfl
theorem C1_of : ofB C1 = (2, 0) := by
  have ha : acy (solve C1) := acy_flat (fun _ => rfl) rfl
  rw [ofB_acy ha, val_0 ha]
  show (min 65537 (_ + longB l3), 0) = _
  rw [l3_long]
  rfl
def tb (id miss : Int) : Table := ⟨id, 0, s0, 0, miss⟩
def C2 : Config := ⟨s0, s0, ⟨[tb 2 1, tb 1 7], true, 5⟩, s0, s0, s0, s0, s0, s0⟩
theorem C2_of : ofB C2 = (1, 0) := by
  have ha : acy (solve C2) := acy_flat (fun _ => rfl) rfl
  have e : tabL C2 1 = [7] := rfl
  rw [ofB_acy ha, val_0 ha, e]
  show (min 65537 (min over (max 0 (val (solve C2) (1, 7)) + 1) + longB []), 0) = _
  rw [longB_nil, val_1 ha]
  rfl
def en (t b : Int) : Entry := ⟨t, ByteArray.mk #[], ByteArray.mk #[], 0, 0, b, s0, 0, 0, 0, false⟩
def C3 : Config := ⟨s0, s0, ⟨[tb 1 0], true, 5⟩, ⟨[en 1 1, en 1 2, en 2 3], true, 11⟩, ⟨[⟨1, ⟨[23, 20, 20].map mkI, false, 7⟩⟩, ⟨2, ⟨[12, 23, 20, 22, 20].map mkI, false, 7⟩⟩, ⟨3, ⟨List.replicate 9 zeroI, true, 7⟩⟩], true, 2⟩, s0, s0, s0, s0⟩
theorem C3_of : ofB C3 = (4, 0) := by
  have hb : ∀ id, blkL C3 id = if id = 1 then [23, 20, 20].map mkI else if id = 2 then [12, 23, 20, 22, 20].map mkI else if id = 3 then List.replicate 9 zeroI else [] := by
    intro id
    by_cases h1 : id = 1
    · subst h1; rfl
    by_cases h2 : id = 2
    · subst h2; rfl
    by_cases h3 : id = 3
    · subst h3; rfl
    have e1 : ((1 : Int) == id) = false := by simp; omega
    have e2 : ((2 : Int) == id) = false := by simp; omega
    have e3 : ((3 : Int) == id) = false := by simp; omega
    rw [if_neg h1, if_neg h2, if_neg h3]
    unfold blkL C3
    simp only [List.find?_cons, e1, e2, e3, List.find?_nil]
    rfl
  have ha : acy (solve C3) := acy_flat (fun id => by
    rw [hb]
    split
    · rfl
    · split
      · rfl
      · split <;> rfl) rfl
  have e : tabL C3 1 = [0, 1, 2] := rfl
  have v0 : val (solve C3) (1, 0) = 0 := by rw [val_1 ha]; rfl
  have v1 : val (solve C3) (1, 1) = 1 := by rw [val_1 ha]; rfl
  have v2 : val (solve C3) (1, 2) = 3 := by rw [val_1 ha]; rfl
  rw [ofB_acy ha, val_0 ha, e]
  show (min 65537 (min over (max (max (max 0 (val (solve C3) (1, 0))) (val (solve C3) (1, 1))) (val (solve C3) (1, 2)) + 1) + longB []), 0) = _
  rw [longB_nil, v0, v1, v2]
  rfl
end
end Go.AM.B
