/- Parts of the proof: AM.Op3, AM.Op4, AM.Op5, AM.Op6, AM.Op7, AM.Op8. -/
import Derived.Test.YtebogdeaiecldaaAmDef
import Derived.Laws.MakeOwn
/- AM, part 8: arithmetic, comparison, lengths, pieces, aggregates, look-ups. -/
namespace Go.AM
noncomputable section
set_option linter.unusedVariables false
set_option linter.unusedSimpArgs false

/-- What '==' says of a struct of whole numbers, texts and bools. -/
structure FOk (P : Program) (tt : TypeId → Option TI) : Prop where
  guard : ∀ t i l, tt t = some i → i.flat = some l → P.eqGuardType P.depth t = false
  equal : ∀ t i l, tt t = some i → i.flat = some l → ∀ (F : Nat → Prop) (w w' : World) (ι : Id → Option Nat) (x y : List AV) (xs ys : Array Value) (r : Bool), keqs l x y = some r → xs.size = x.length → ys.size = y.length →
    (∀ (j : Nat) (u : AV) (c : Value), x[j]? = some u → xs[j]? = some c → RV F w ι u c) → (∀ (j : Nat) (u : AV) (c : Value), y[j]? = some u → ys[j]? = some c → RV F w ι u c) →
    (Op.equal t (.agg xs) (.agg ys)).run P w' = .ok r w'
  check : ∀ t i l, tt t = some i → i.flat = some l → ∀ (em : Bool) (F : Nat → Prop) (w w' : World) (ι : Id → Option Nat) (x : List AV) (xs : Array Value), fitss l x = true → xs.size = x.length →
    (∀ (j : Nat) (u : AV) (c : Value), x[j]? = some u → xs[j]? = some c → RV F w ι u c) → (Instr.checkKey em 10000 t (.agg xs)).run P w' = .ok () w'
  struct : ∀ t i l, tt t = some i → i.flat = some l → ∃ fs, i.desc = .struct fs

variable {P : Program} {tt : TypeId → Option TI}
variable {F : Nat → Prop} {ι : Id → Option Nat} {lam : Nat → Nat} {n : Nat} {e : Env} {h : Heap} {a : Act} {w : World}
variable {nid : Id} {dst : Option Nat} {o : Oper} {N : Nat} {eff : Eff}

theorem run_binop {op : BinOp} {t : TypeId} {x y r : AV} {cx cy : Value} (hop : op ≠ .eql ∧ op ≠ .neq) (hr : binop op x y = some r) (hx : RV F w ι x cx) (hy : RV F w ι y cy) :
    ∃ v, (binOp op t cx cy).run P w = .ok v w ∧ RV F w ι r v := by
  unfold binop at hr
  split at hr
  · rename_i k p k' q
    have := hx.int_inv
    subst this
    have := hy.int_inv
    subst this
    have plain : ∀ (hs : op ≠ .shl ∧ op ≠ .shr), (bif k == k' then binInt op k p q else none) = some r → ∃ v, (binOp op t (.int k p) (.int k' q)).run P w = .ok v w ∧ RV F w ι r v := by
      intro hs hb
      cases hk : (k == k')
      · simp [hk] at hb
      rw [hk] at hb
      simp only [cond_true] at hb
      have hkk : k = k' := by simpa using hk
      subst hkk
      cases op <;> simp only [binInt, ne_eq, not_true_eq_false, false_and, and_false] at hb hop hs
      case quo =>
        cases hz : (q == 0)
        · rw [hz] at hb
          simp only [cond_false, Option.some.injEq] at hb
          subst hb
          have hz' : ¬ q = 0 := by simpa using hz
          exact ⟨.int k (k.wrap (p.tdiv q)), by simp [binOp, Op.intDiv, hz'], .int _ _ _⟩
        · rw [hz] at hb; simp at hb
      case rem =>
        cases hz : (q == 0)
        · rw [hz] at hb
          simp only [cond_false, Option.some.injEq] at hb
          subst hb
          have hz' : ¬ q = 0 := by simpa using hz
          exact ⟨.int k (p.tmod q), by simp [binOp, Op.intDiv, hz'], .int _ _ _⟩
        · rw [hz] at hb; simp at hb
      all_goals first
        | (injection hb with hb; subst hb; exact ⟨_, by simp only [binOp, ne_eq, not_true_eq_false, if_false]; rfl, by first | exact .int _ _ _ | exact .bool _ _⟩)
        | (cases hb)
    split at hr
    · cases hz : decide (q < 0)
      · rw [hz] at hr
        simp only [cond_false, Option.some.injEq] at hr
        subst hr
        have hz' : ¬ q < 0 := by simpa using hz
        refine ⟨.int k (k.wrap (p * 2 ^ (Nat.min q.toNat k.bits))), ?_, .int _ _ _⟩
        simp only [binOp, Op.shift, Sem.run_ite, hz', if_false, Sem.run_pure]
      · rw [hz] at hr; simp at hr
    · cases hz : decide (q < 0)
      · rw [hz] at hr
        simp only [cond_false, Option.some.injEq] at hr
        subst hr
        have hz' : ¬ q < 0 := by simpa using hz
        refine ⟨.int k (p.fdiv (2 ^ (Nat.min q.toNat k.bits))), ?_, .int _ _ _⟩
        simp only [binOp, Op.shift, Sem.run_ite, hz', if_false, Sem.run_pure]
      · rw [hz] at hr; simp at hr
    · rename_i h1 h2
      exact plain ⟨fun h => h1 h, fun h => h2 h⟩ hr
  · rename_i p q
    have := hx.str_inv
    subst this
    have := hy.str_inv
    subst this
    cases op <;> simp only [binStr, ne_eq, not_true_eq_false, false_and, and_false] at hr hop
    case add =>
      cases hz : decide (((p.size + q.size : Nat) : Int) > IntKind.i64.max)
      · rw [hz] at hr
        simp only [cond_false, Option.some.injEq] at hr
        subst hr
        have hz' : ¬ ((p.size + q.size : Nat) : Int) > IntKind.i64.max := by simpa using hz
        refine ⟨_, ?_, .str _ _⟩
        simp only [binOp, Op.stringOp, Sem.run_ite, hz', if_false, Sem.run_pure]
      · rw [hz] at hr; simp at hr
    all_goals first
      | (injection hr with hr; subst hr; exact ⟨_, rfl, .bool _ _⟩)
      | (cases hr)
  · cases hr

theorem run_eqGuard_ord {op : BinOp} (hop : op ≠ .eql ∧ op ≠ .neq) (t : TypeId) (x y : Operand) (p q : Value) : (eqGuard op t x y p q).run P w = .ok () w := by
  cases op <;> simp_all [eqGuard]

theorem ok_bin (H : Sim F ι lam n e h a w) (hd : ∀ d, dst = some d → d < n) {op : BinOp} {t u : TypeId} {x y : Operand} (hop : op ≠ .eql ∧ op ≠ .neq) (ho : o.op = .binOp op t x y u) (ha : aop e h nid dst (.bin op x y) = some eff) :
    Out P F ι lam n e h a w nid dst o (St.eff ⟨e, h, N⟩ dst eff) := by
  simp only [aop] at ha
  split at ha
  · rename_i p q h1 h2
    split at ha
    · rename_i r hr
      injection ha with ha
      subst ha
      obtain ⟨v, h3, h4⟩ := run_binop (P := P) (t := t) hop hr (evA_ok H h1) (evA_ok H h2)
      refine quiet_val H hd (v := v) ?_ h4
      simp only [execOp, ho, Sem.run_bind, run_eqGuard_ord hop, Result.andThen_ok, h3, Sem.run_pure]
    · cases ha
  · cases ha

theorem run_mm2 {mx : Bool} {x y r : AV} {cx cy : Value} (hr : mm2 mx x y = some r) (hx : RV F w ι x cx) (hy : RV F w ι y cy) :
    ∃ v, ((if mx then Builtin.max2 cx cy else Builtin.min2 cx cy)).run P w = .ok v w ∧ RV F w ι r v := by
  have key : ∀ k p k' q z (hz : (if mx then (if q > p then q else p) else (if q < p then q else p)) = z), x = .int k p → y = .int k' q → (k == k') = true → r = .int k z → ∃ v, ((if mx then Builtin.max2 cx cy else Builtin.min2 cx cy)).run P w = .ok v w ∧ RV F w ι r v := by
    intro k p k' q z hz e1 e2 hk e3
    subst e1 e2 e3 hz
    have := hx.int_inv
    subst this
    have := hy.int_inv
    subst this
    cases mx <;> simp only [if_true, Bool.false_eq_true, if_false, Builtin.max2, Builtin.min2, Sem.run_pure] <;> exact ⟨_, rfl, .int _ _ _⟩
  unfold mm2 at hr
  split at hr
  · rename_i k p k' q
    cases hk : (k == k')
    · simp [hk] at hr
    rw [hk] at hr
    simp only [cond_true, Option.some.injEq] at hr
    exact key k p k' q (max p q) (by simp only [if_true]; split <;> omega) rfl rfl hk hr.symm
  · rename_i k p k' q
    cases hk : (k == k')
    · simp [hk] at hr
    rw [hk] at hr
    simp only [cond_true, Option.some.injEq] at hr
    exact key k p k' q (min p q) (by simp only [Bool.false_eq_true, if_false]; split <;> omega) rfl rfl hk hr.symm
  · cases hr

theorem run_mms {mx : Bool} : ∀ {ys : List AV} {x r : AV} {cx : Value} {cys : List Value}, mms mx x ys = some r → RV F w ι x cx → cys.length = ys.length → (∀ (j : Nat) (u : AV) (c : Value), ys[j]? = some u → cys[j]? = some c → RV F w ι u c) →
    ∃ v, (cys.foldlM (fun p q => if mx then Builtin.max2 p q else Builtin.min2 p q) cx).run P w = .ok v w ∧ RV F w ι r v
  | [], x, r, cx, cys, hr, hx, hl, _ => by
    simp only [mms, Option.some.injEq] at hr
    subst hr
    cases cys with
    | nil => exact ⟨cx, rfl, hx⟩
    | cons _ _ => simp at hl
  | y :: ys, x, r, cx, cys, hr, hx, hl, hc => by
    cases cys with
    | nil => simp at hl
    | cons cy cys =>
      simp only [mms] at hr
      split at hr
      · rename_i z hz
        obtain ⟨v, h1, h2⟩ := run_mm2 (P := P) hz hx (hc 0 y cy rfl rfl)
        obtain ⟨v', h3, h4⟩ := run_mms hr h2 (by simpa using hl) (fun j u c hu hcc => hc (j + 1) u c (by simpa using hu) (by simpa using hcc))
        refine ⟨v', ?_, h4⟩
        simp only [List.foldlM_cons, Sem.run_bind, h1, Result.andThen_ok, h3]
      · cases hr

theorem ok_mm (H : Sim F ι lam n e h a w) (hd : ∀ d, dst = some d → d < n) {mx : Bool} {c : Call} {x : Operand} {r : List Operand} (hc : c.callee = .builtin (if mx then .max else .min)) (hargs : c.args.toList = x :: r) (ho : o.op = .call c)
    (ha : aop e h nid dst (.mm mx x r) = some eff) : Out P F ι lam n e h a w nid dst o (St.eff ⟨e, h, N⟩ dst eff) := by
  simp only [aop] at ha
  split at ha
  · rename_i p l h1 h2
    split at ha
    · rename_i v hv
      injection ha with ha
      subst ha
      obtain ⟨k1, k2⟩ := evAs_ok H h2
      obtain ⟨cv, h3, h4⟩ := run_mms (P := P) (cys := r.map a.eval) hv (evA_ok H h1) (by simp [k1]) k2
      refine quiet_val H hd (v := cv) ?_ h4
      have hl : (c.args.map a.eval).toList = a.eval x :: r.map a.eval := by simp [hargs]
      cases mx
      · simp only [Bool.false_eq_true, if_false] at hc h3
        simp only [execOp, ho, resolve, hc, Sem.run_bind, Sem.run_pure, Result.andThen_ok, invoke, builtin, Builtin.min_, hl]
        rw [show (fun p q => Builtin.min2 p q) = Builtin.min2 from rfl] at h3
        rw [h3]
        rfl
      · simp only [if_true] at hc h3
        simp only [execOp, ho, resolve, hc, Sem.run_bind, Sem.run_pure, Result.andThen_ok, invoke, builtin, Builtin.max_, hl]
        rw [show (fun p q => Builtin.max2 p q) = Builtin.max2 from rfl] at h3
        rw [h3]
        rfl
    · cases ha
  · cases ha

/-- len. -/
theorem ok_len (T : TOk P tt) (H : Sim F ι lam n e h a w) (hd : ∀ d, dst = some d → d < n) {c : Call} {t : TypeId} {x : Operand} {i : TI} {k : LK} (hc : c.callee = .builtin .len) (hts : c.argTypes.toList = [t]) (hargs : c.args.toList = [x]) (hi : tt t = some i)
    (hk : (i.desc = .string ∧ k = .str) ∨ (∃ el, i.desc = .slice el ∧ k = .slice) ∨ (∃ p q, i.desc = .map p q ∧ k = .map) ∨ (∃ m el, i.desc = .array m el ∧ k = .arr m)) (ho : o.op = .call c)
    (ha : aop e h nid dst (.len k x) = some eff) : Out P F ι lam n e h a w nid dst o (St.eff ⟨e, h, N⟩ dst eff) := by
  have ht0 : c.argTypes[0]? = some t := by rw [← Array.getElem?_toList, hts]; rfl
  have hx0 : (c.args.map a.eval)[0]? = some (a.eval x) := by rw [← Array.getElem?_toList, Array.toList_map, hargs]; rfl
  have hrun : ∀ (v : Value), (Builtin.len_ c.argTypes o.type (c.args.map a.eval)).run P w = .ok v w → (execOp a.eval o).run P w = .ok (.value v) w := by
    intro v hv
    simp only [execOp, ho, resolve, hc, Sem.run_bind, Sem.run_pure, Result.andThen_ok, invoke, builtin, hv]
  simp only [aop] at ha
  split at ha
  · rename_i s h1
    rcases hk with ⟨h2, h3⟩ | ⟨el, h2, h3⟩ | ⟨p, q, h2, h3⟩ | ⟨m, el, h2, h3⟩ <;> first | (cases h3; done) | skip
    injection ha with ha
    subst ha
    have hcv := (evA_ok H h1).str_inv
    refine quiet_val H hd (hrun _ ?_) (.int _ _ _)
    simp only [Builtin.len_, ht0, hx0, Sem.run_bind, T.desc hi, Result.andThen_ok, h2, hcv, Sem.run_pure, goInt]
  · rename_i h1
    rcases hk with ⟨h2, h3⟩ | ⟨el, h2, h3⟩ | ⟨p, q, h2, h3⟩ | ⟨m, el, h2, h3⟩ <;> first | (cases h3; done) | skip
    injection ha with ha
    subst ha
    have hcv := (evA_ok H h1).nils_inv
    refine quiet_val H hd (hrun _ ?_) (.int _ _ _)
    simp only [Builtin.len_, ht0, hx0, Sem.run_bind, T.desc hi, Result.andThen_ok, h2, hcv, Sem.run_pure, goInt]
    rfl
  · rename_i h1
    rcases hk with ⟨h2, h3⟩ | ⟨el, h2, h3⟩ | ⟨p, q, h2, h3⟩ | ⟨m, el, h2, h3⟩ <;> first | (cases h3; done) | skip
    injection ha with ha
    subst ha
    obtain ⟨b, cap, arr, ety, fz, hcv, _⟩ := (evA_ok H h1).slice_inv
    refine quiet_val H hd (hrun _ ?_) (.int _ _ _)
    simp only [Builtin.len_, ht0, hx0, Sem.run_bind, T.desc hi, Result.andThen_ok, h2, hcv, Sem.run_pure, goInt]
  · rename_i h1
    rcases hk with ⟨h2, h3⟩ | ⟨el, h2, h3⟩ | ⟨p, q, h2, h3⟩ | ⟨m, el, h2, h3⟩ <;> first | (cases h3; done) | skip
    injection ha with ha
    subst ha
    obtain ⟨ad, cap, b, base, cv, hcv, _⟩ := (evA_ok H h1).pslice_inv
    refine quiet_val H hd (hrun _ ?_) (.int _ _ _)
    simp only [Builtin.len_, ht0, hx0, Sem.run_bind, T.desc hi, Result.andThen_ok, h2, hcv, Sem.run_pure, goInt]
  · rename_i h1
    rcases hk with ⟨h2, h3⟩ | ⟨el, h2, h3⟩ | ⟨p, q, h2, h3⟩ | ⟨m, el, h2, h3⟩ <;> first | (cases h3; done) | skip
    injection ha with ha
    subst ha
    have hcv := (evA_ok H h1).nilm_inv
    refine quiet_val H hd (hrun _ ?_) (.int _ _ _)
    simp only [Builtin.len_, ht0, hx0, Sem.run_bind, T.desc hi, Result.andThen_ok, h2, hcv, Sem.run_pure, goInt]
  · rename_i o' h1
    rcases hk with ⟨h2, h3⟩ | ⟨el, h2, h3⟩ | ⟨p, q, h2, h3⟩ | ⟨m, el, h2, h3⟩ <;> first | (cases h3; done) | skip
    split at ha
    · rename_i ks vs born clock hob
      injection ha with ha
      subst ha
      obtain ⟨b, hcv, hb⟩ := (evA_ok H h1).map_inv
      obtain ⟨b', h4, _, es, h5, h6, _⟩ := H.obj o' _ hob
      rw [hb] at h4
      injection h4 with h4
      subst h4
      refine quiet_val H hd (hrun (.int .i64 es.size) ?_) (by rw [h6]; exact .int _ _ _)
      have hg : (getObj b).run P w = .ok (.map es clock) w := by simp [getObj, Sem.run, h5]
      simp only [Builtin.len_, ht0, hx0, Sem.run_bind, T.desc hi, Result.andThen_ok, h2, hcv, hg, Sem.run_pure, goInt]
    · cases ha
  · rename_i m' _
    rcases hk with ⟨h2, h3⟩ | ⟨el, h2, h3⟩ | ⟨p, q, h2, h3⟩ | ⟨m, el, h2, h3⟩ <;> first | (cases h3; done) | skip
    injection h3 with h3
    subst h3
    injection ha with ha
    subst ha
    refine quiet_val H hd (hrun _ ?_) (.int _ _ _)
    simp only [Builtin.len_, ht0, hx0, Sem.run_bind, T.desc hi, Result.andThen_ok, h2, Sem.run_pure, goInt]
  · cases ha

/-! ### pieces -/
theorem bnd_ok (H : Sim F ι lam n e h a w) {m : Nat} {x : Option Operand} {r : Option Nat} (hb : bnd e m x = some r) :
    (x = none ∧ r = none) ∨ ∃ y q, x = some y ∧ r = some q ∧ q ≤ m ∧ ∃ k, a.eval y = .int k (q : Int) := by
  cases x with
  | none => simp only [bnd, Option.some.injEq] at hb; exact .inl ⟨rfl, hb.symm⟩
  | some y =>
    simp only [bnd] at hb
    split at hb
    · rename_i k q hq
      cases hz : (decide (0 ≤ q) && decide (q ≤ (m : Int)))
      · simp [hz] at hb
      rw [hz] at hb
      simp only [cond_true, Option.some.injEq] at hb
      subst hb
      simp only [Bool.and_eq_true, decide_eq_true_eq] at hz
      refine .inr ⟨y, q.toNat, rfl, rfl, by omega, k, ?_⟩
      rw [(evA_ok H hq).int_inv, Int.toNat_of_nonneg hz.1]
    · cases hb

theorem run_sliceBound {y : Value} {k : IntKind} {q m : Nat} {code : BoundsCode} (hy : y = .int k (q : Int)) (hq : q ≤ m) : (Instr.sliceBound y m code).run P w = .ok q w := by
  subst hy
  have : (q : Int) ≤ (m : Int) := by omega
  simp [Instr.sliceBound, asIntOf, this]

theorem slcBounds_ok (H : Sim F ι lam n e h a w) {isS : Bool} {len cap : Nat} {lo hi mx : Option Operand} {l hh : Nat} {m : Option Nat} (hlc : len ≤ cap) (hs : slcBounds e len lo hi mx = some (l, hh, m)) :
    (Instr.sliceBounds isS len cap (lo.map a.eval) (hi.map a.eval) (mx.map a.eval)).run P w = .ok (l, hh, m.getD cap) w ∧ l ≤ hh ∧ hh ≤ m.getD len ∧ m.getD len ≤ len := by
  simp only [slcBounds] at hs
  split at hs
  case h_2 => cases hs
  rename_i m' hm'
  split at hs
  case h_2 => cases hs
  rename_i h' hh'
  split at hs
  case h_2 => cases hs
  rename_i l' hl'
  cases hz : (m'.isSome && h'.isNone)
  case true => simp [hz] at hs
  rw [hz] at hs
  simp only [cond_false, Option.some.injEq, Prod.mk.injEq] at hs
  obtain ⟨rfl, rfl, rfl⟩ := hs
  rcases bnd_ok H hm' with ⟨rfl, rfl⟩ | ⟨y, q, rfl, rfl, hq, k, hk⟩
  · rcases bnd_ok H hh' with ⟨rfl, rfl⟩ | ⟨y2, q2, rfl, rfl, hq2, k2, hk2⟩
    · rcases bnd_ok H hl' with ⟨rfl, rfl⟩ | ⟨y3, q3, rfl, rfl, hq3, k3, hk3⟩
      · simp only [Instr.sliceBounds, Option.map_none, Sem.run_bind, Sem.run_pure, Result.andThen_ok, Option.getD_none]
        exact ⟨trivial, by omega, by omega, by omega⟩
      · simp only [Option.getD_none] at hq3
        simp only [Instr.sliceBounds, Option.map_none, Option.map_some, Sem.run_bind, Sem.run_pure, Result.andThen_ok, run_sliceBound (P := P) (w := w) hk3 hq3, Option.getD_none, Option.getD_some]
        exact ⟨trivial, by omega, by omega, by omega⟩
    · simp only [Option.getD_none] at hq2
      rcases bnd_ok H hl' with ⟨rfl, rfl⟩ | ⟨y3, q3, rfl, rfl, hq3, k3, hk3⟩
      · simp only [Instr.sliceBounds, Option.map_none, Option.map_some, Sem.run_bind, Sem.run_pure, Result.andThen_ok, run_sliceBound (P := P) (w := w) (m := cap) hk2 (by omega), Option.getD_none, Option.getD_some]
        exact ⟨trivial, by omega, by omega, by omega⟩
      · simp only [Option.getD_some] at hq3
        simp only [Instr.sliceBounds, Option.map_none, Option.map_some, Sem.run_bind, Sem.run_pure, Result.andThen_ok, run_sliceBound (P := P) (w := w) (m := cap) hk2 (by omega), run_sliceBound (P := P) (w := w) hk3 hq3, Option.getD_none, Option.getD_some]
        exact ⟨trivial, by omega, by omega, by omega⟩
  · rcases bnd_ok H hh' with ⟨rfl, rfl⟩ | ⟨y2, q2, rfl, rfl, hq2, k2, hk2⟩
    · simp at hz
    · simp only [Option.getD_some] at hq2
      rcases bnd_ok H hl' with ⟨rfl, rfl⟩ | ⟨y3, q3, rfl, rfl, hq3, k3, hk3⟩
      · simp only [Instr.sliceBounds, Option.map_none, Option.map_some, Sem.run_bind, Sem.run_pure, Result.andThen_ok, run_sliceBound (P := P) (w := w) (m := cap) hk (by omega), run_sliceBound (P := P) (w := w) hk2 hq2, Option.getD_none, Option.getD_some]
        exact ⟨trivial, by omega, by omega, by omega⟩
      · simp only [Option.getD_some] at hq3
        simp only [Instr.sliceBounds, Option.map_none, Option.map_some, Sem.run_bind, Sem.run_pure, Result.andThen_ok, run_sliceBound (P := P) (w := w) (m := cap) hk (by omega), run_sliceBound (P := P) (w := w) hk2 hq2, run_sliceBound (P := P) (w := w) hk3 hq3, Option.getD_none, Option.getD_some]
        exact ⟨trivial, by omega, by omega, by omega⟩

theorem ok_slc_str (T : TOk P tt) (H : Sim F ι lam n e h a w) (hd : ∀ d, dst = some d → d < n) {t : TypeId} {x : Operand} {i : TI} {lo hi mx : Option Operand} (hti : tt t = some i) (hds : i.desc = .string) (ho : o.op = .slice t x lo hi mx)
    (ha : aop e h nid dst (.slc none x lo hi mx) = some eff) : Out P F ι lam n e h a w nid dst o (St.eff ⟨e, h, N⟩ dst eff) := by
  simp only [aop] at ha
  split at ha
  case h_2 => cases ha
  rename_i r hx
  split at ha
  case h_2 => cases ha
  rename_i v hv
  injection ha with ha
  subst ha
  have hval := evA_ok H hx
  cases r <;> simp only [slcOf] at hv <;> first | (cases hv; done) | skip
  rename_i s
  cases mx with
  | some y => simp at hv
  | none =>
    cases hb : slcBounds e s.size lo hi none with
    | none => simp [hb] at hv
    | some z =>
      obtain ⟨l, hh, m⟩ := z
      simp only [hb, Option.some.injEq] at hv
      subst hv
      have hcv := hval.str_inv
      obtain ⟨h2, h3, h4, h5⟩ := slcBounds_ok (P := P) (isS := false) H (Nat.le_refl _) hb
      refine quiet_val H hd (v := .string (s.extract l hh)) ?_ (.str _ _)
      simp only [Option.map_none] at h2
      simp only [execOp, ho, Sem.run_bind, Instr.sliceAt, T.desc hti, Result.andThen_ok, hds, Instr.slice, hcv, Option.map_none, Option.isSome_none, Bool.false_eq_true, if_false, Sem.run_pure, h2]

theorem ok_slc_slice (T : TOk P tt) (H : Sim F ι lam n e h a w) (hd : ∀ d, dst = some d → d < n) {t el : TypeId} {x : Operand} {i j : TI} {lo hi mx : Option Operand} (hti : tt t = some i) (hds : i.desc = .slice el) (hj : tt el = some j) (ho : o.op = .slice t x lo hi mx)
    (ha : aop e h nid dst (.slc (some j.size) x lo hi mx) = some eff) : Out P F ι lam n e h a w nid dst o (St.eff ⟨e, h, N⟩ dst eff) := by
  simp only [aop] at ha
  split at ha
  case h_2 => cases ha
  rename_i r hx
  split at ha
  case h_2 => cases ha
  rename_i v hv
  injection ha with ha
  subst ha
  have hval := evA_ok H hx
  cases r <;> simp only [slcOf] at hv <;> first | (cases hv; done) | skip
  · split at hv
    case h_2 => cases hv
    rename_i z hz
    obtain ⟨l, hh, m⟩ := z
    injection hv with hv
    subst hv
    have hcv := hval.nils_inv
    obtain ⟨h2, h3, h4, h5⟩ := slcBounds_ok (P := P) (isS := true) H (Nat.le_refl _) hz
    have hm : m.getD 0 = 0 := by omega
    have hh0 : hh = 0 := by omega
    have hl0 : l = 0 := by omega
    subst hh0
    subst hl0
    rw [hm] at h2
    refine quiet_val H hd (v := .slice none 0 0) ?_ (.nils _)
    simp only [execOp, ho, Sem.run_bind, Instr.sliceAt, T.desc hti, Result.andThen_ok, hds, Instr.slice, hcv, Sem.run_pure, h2, T.size hj, if_true, Nat.sub_zero]
  · rename_i o' co len es' clip
    split at hv
    case h_2 => cases hv
    rename_i l hh m hz
    cases hes : (j.size == es')
    · simp [hes] at hv
    rw [hes] at hv
    simp only [cond_true, Option.some.injEq] at hv
    subst hv
    have hes' : j.size = es' := by simpa using hes
    subst hes'
    obtain ⟨b, cap, arr, ety, fz, hcv, hb, hhp, hsz, hlen, hmx, hclip⟩ := hval.slice_inv
    obtain ⟨h2, h3, h4, h5⟩ := slcBounds_ok (P := P) (isS := true) H hlen hz
    have hgm : hh ≤ m.getD cap ∧ m.getD cap ≤ cap := by cases m <;> simp at h4 h5 ⊢ <;> omega
    refine quiet_val H hd (v := .slice (if m.getD cap = l then some ⟨b, co, none⟩ else some ⟨b, co + l * j.size, none⟩) (hh - l) (m.getD cap - l)) ?_ ?_
    · simp only [execOp, ho, Sem.run_bind, Instr.sliceAt, T.desc hti, Result.andThen_ok, hds, Instr.slice, hcv, Sem.run_pure, h2, T.size hj, Option.map_some, add_lit']
    · have hc : clipOf m clip hh len = true → m.getD cap - l = hh - l := by
        unfold clipOf
        cases m with
        | none =>
          simp only [Bool.and_eq_true, beq_iff_eq, Option.getD_none]
          intro hc
          have := hclip hc.1
          omega
        | some m => simp only [beq_iff_eq, Option.getD_some]; intro hc; omega
      unfold piece
      dsimp only
      cases hhl : (hh == l)
      · have hne : ¬ hh = l := by simpa using hhl
        have hml : ¬ m.getD cap = l := by omega
        simp only [cond_false, hml, if_false]
        refine .slice _ _ _ _ _ _ b (m.getD cap - l) arr ety fz hb hhp ?_ (by omega) (by omega) hc
        have : l * j.size + (m.getD cap - l) * j.size ≤ cap * j.size := by rw [← Nat.add_mul]; exact Nat.mul_le_mul_right _ (by omega)
        omega
      · have hne : hh = l := by simpa using hhl
        simp only [cond_true]
        subst hne
        rw [Nat.sub_self] at hc ⊢
        exact .pslice _ [] 0 j.size _ _ (m.getD cap - hh) 0 0 (fun _ => undef) (by omega) (by omega) hc (by simp) (by simp) (by simp) (by simp)
  · rename_i cs len es' clip
    split at hv
    case h_2 => cases hv
    rename_i l hh m hz
    simp only [Option.some.injEq] at hv
    subst hv
    obtain ⟨ad, cap, b, base, cv, hcv, hlen, hmx, hclip, had, hcne, hcell, hrv⟩ := hval.pslice_inv
    obtain ⟨h2, h3, h4, h5⟩ := slcBounds_ok (P := P) (isS := true) H hlen hz
    have hgm : hh ≤ m.getD cap ∧ m.getD cap ≤ cap := by cases m <;> simp at h4 h5 ⊢ <;> omega
    refine quiet_val H hd (v := .slice (if m.getD cap = l then ad else ad.map (·.add (l * j.size))) (hh - l) (m.getD cap - l)) ?_ ?_
    · simp only [execOp, ho, Sem.run_bind, Instr.sliceAt, T.desc hti, Result.andThen_ok, hds, Instr.slice, hcv, Sem.run_pure, h2, T.size hj]
    · have hc : clipOf m clip hh len = true → m.getD cap - l = hh - l := by
        unfold clipOf
        cases m with
        | none =>
          simp only [Bool.and_eq_true, beq_iff_eq, Option.getD_none]
          intro hc
          have := hclip hc.1
          omega
        | some m => simp only [beq_iff_eq, Option.getD_some]; intro hc; omega
      unfold piece
      dsimp only
      cases hhl : (hh == l)
      · have hne : ¬ hh = l := by simpa using hhl
        have hml : ¬ m.getD cap = l := by omega
        have hpos : 0 < len := by omega
        obtain ⟨rfl, hF⟩ := had hpos
        simp only [cond_false, hml, if_false, Option.map_some, add_lit']
        refine .pslice _ _ _ _ _ _ (m.getD cap - l) b (base + l * j.size) (fun q => cv (l * j.size + q)) (by omega) (by omega) hc (fun _ => ⟨rfl, hF⟩) (fun _ => by omega) (fun q u hu => ?_) (fun q u hu => ?_)
        · rw [List.getElem?_drop] at hu
          have := hcell _ u hu
          rwa [← Nat.add_assoc] at this
        · rw [List.getElem?_drop] at hu
          exact hrv _ u hu
      · have hne : hh = l := by simpa using hhl
        simp only [cond_true]
        subst hne
        rw [Nat.sub_self] at hc ⊢
        exact .pslice _ [] 0 j.size _ _ (m.getD cap - hh) 0 0 (fun _ => undef) (by omega) (by omega) hc (by simp) (by simp) (by simp) (by simp)

end
end Go.AM

/- AM, part 9: aggregates. -/
namespace Go.AM
noncomputable section
set_option linter.unusedVariables false
set_option linter.unusedSimpArgs false

variable {P : Program} {tt : TypeId → Option TI}
variable {F : Nat → Prop} {ι : Id → Option Nat} {lam : Nat → Nat} {n : Nat} {e : Env} {h : Heap} {a : Act} {w : World}
variable {nid : Id} {dst : Option Nat} {o : Oper} {N : Nat} {eff : Eff}

theorem cells_of {r : AV} {c : Value} (hv : RV F w ι r c) (hj : r ≠ .junk) : RVs F w ι (cellsOf r) c.cells := by
  cases hv with
  | junk => exact absurd rfl hj
  | agg ι cs vs h1 h2 => exact ⟨h1, h2⟩
  | _ =>
    refine ⟨rfl, fun j u c' hu hc => ?_⟩
    cases j with
    | zero =>
      simp only [cellsOf, List.getElem?_cons_zero, Option.some.injEq] at hu
      simp only [Value.cells] at hc
      subst hu
      have hc' := hc
      simp only [List.getElem?_toArray, List.getElem?_cons_zero, Option.some.injEq] at hc'
      subst hc'
      constructor <;> assumption
    | succ j => simp [cellsOf] at hu

theorem evA_notjunk {x : Operand} {r : AV} (hx : evA e x = some r) : r ≠ .junk := by
  cases x with
  | tmp t =>
    simp only [evA] at hx
    split at hx
    · cases hx
    · rename_i b hb _
      injection hx with hx
      subst hx
      rintro rfl
      exact hb rfl
    · cases hx
  | const v =>
    simp only [evA, ofV] at hx
    split at hx <;> first | (injection hx with hx; subst hx; simp) | cases hx
  | global g => cases hx
  | func f =>
    simp only [evA, Option.some.injEq] at hx
    subst hx
    simp

/-! ### cells that are set -/
def setFrom (arr : Array Value) (off : Nat) : List Value → Array Value
  | [] => arr
  | v :: r => setFrom (arr.setIfInBounds off v) (off + 1) r
theorem setFrom_size (vs : List Value) : ∀ (arr : Array Value) (off : Nat), (setFrom arr off vs).size = arr.size := by
  induction vs with
  | nil => intro arr off; rfl
  | cons v r ih => intro arr off; simp [setFrom, ih]
theorem setFrom_get (vs : List Value) : ∀ (arr : Array Value) (off j : Nat), off + vs.length ≤ arr.size → (setFrom arr off vs)[j]? = if off ≤ j ∧ j < off + vs.length then vs[j - off]? else arr[j]? := by
  induction vs with
  | nil =>
    intro arr off j _
    have : ¬ (off ≤ j ∧ j < off + ([] : List Value).length) := by simp only [List.length_nil]; omega
    rw [if_neg this]
    rfl
  | cons v r ih =>
    intro arr off j hle
    simp only [List.length_cons] at hle
    rw [setFrom, ih _ _ _ (by simp; omega)]
    by_cases h1 : off + 1 ≤ j ∧ j < off + 1 + r.length
    · have h2 : off ≤ j ∧ j < off + (v :: r).length := by simp; omega
      rw [if_pos h1, if_pos h2, show j - off = (j - (off + 1)) + 1 by omega]
      simp
    · rw [if_neg h1]
      by_cases h2 : j = off
      · subst h2
        have h3 : j ≤ j ∧ j < j + (v :: r).length := by simp
        have h4 : j < arr.size := by omega
        rw [if_pos h3]
        simp [h4]
      · have h3 : ¬ (off ≤ j ∧ j < off + (v :: r).length) := by simp; omega
        rw [if_neg h3, Array.getElem?_setIfInBounds, if_neg (fun h => h2 h.symm)]
theorem setFrom_foldl (vs : Array Value) (arr : Array Value) (off : Nat) : vs.zipIdx.foldl (fun cs (x : Value × Nat) => cs.setIfInBounds (off + x.2) x.1) arr = setFrom arr off vs.toList := by
  have key : ∀ (l : List Value) (arr : Array Value) (k : Nat), (l.zipIdx k).foldl (fun cs (x : Value × Nat) => cs.setIfInBounds (off + x.2) x.1) arr = setFrom arr (off + k) l := by
    intro l
    induction l with
    | nil => intro arr k; rfl
    | cons v r ih => intro arr k; simp only [List.zipIdx_cons, List.foldl_cons, setFrom]; rw [ih]; rfl
  rw [← Array.foldl_toList, Array.toList_zipIdx]
  exact key vs.toList arr 0

theorem upd_ok {cs cs' xs : List AV} {off : Nat} {arr : Array Value} {vs : Array Value} (hu : upd cs off xs = some cs') (hle : cs.length ≤ arr.size) (hx : RVs F w ι xs vs)
    (hr : ∀ (j : Nat) (u : AV) (c : Value), cs[j]? = some u → arr[j]? = some c → RV F w ι u c) :
    cs'.length = cs.length ∧ off + vs.size ≤ cs.length ∧ ∀ (j : Nat) (u : AV) (c : Value), cs'[j]? = some u → (setFrom arr off vs.toList)[j]? = some c → RV F w ι u c := by
  simp only [upd] at hu
  cases hb : Nat.ble (off + xs.length) cs.length
  · simp [hb] at hu
  rw [hb] at hu
  simp only [cond_true, Option.some.injEq] at hu
  subst hu
  have hle' : off + xs.length ≤ cs.length := Nat.le_of_ble_eq_true hb
  have hvs : vs.toList.length = xs.length := by rw [Array.length_toList]; exact hx.1
  refine ⟨by simp; omega, by rw [hx.1]; exact hle', fun j u c hu hc => ?_⟩
  rw [setFrom_get _ _ _ _ (by rw [hvs]; omega)] at hc
  by_cases h1 : off ≤ j ∧ j < off + vs.toList.length
  · rw [if_pos h1] at hc
    rw [hvs] at h1
    refine hx.2 (j - off) u c ?_ (by simpa using hc)
    rw [List.append_assoc, List.getElem?_append_right (by simp; omega), List.getElem?_append_left (by simp; omega)] at hu
    simpa [Nat.min_eq_left (show off ≤ cs.length by omega)] using hu
  · rw [if_neg h1] at hc
    rw [hvs] at h1
    refine hr j u c ?_ hc
    by_cases h2 : j < off
    · rw [List.append_assoc, List.getElem?_append_left (by simp; omega), List.getElem?_take_of_lt h2] at hu
      exact hu
    · rw [List.getElem?_append_right (by simp; omega)] at hu
      simp only [List.length_append, List.length_take, List.getElem?_drop, Nat.min_eq_left (show off ≤ cs.length by omega)] at hu
      rwa [show off + xs.length + (j - (off + xs.length)) = j by omega] at hu

theorem run_fill {place : Nat → Option (Nat × Nat)} : ∀ {l : List (Nat × List AV)} {ps : List (Nat × Value)} {cs cs' : List AV} {arr : Array Value}, fill cs l = some cs' → ps.length = l.length →
    (∀ (k : Nat) (x : Nat × List AV) (p : Nat × Value), l[k]? = some x → ps[k]? = some p → place p.1 = some (x.1, x.2.length) ∧ RVs F w ι x.2 p.2.cells) → RVs F w ι cs arr →
    ∃ arr', Instr.fill place arr ps = some arr' ∧ RVs F w ι cs' arr'
  | [], ps, cs, cs', arr, hf, hl, _, hr => by
    simp only [fill, Option.some.injEq] at hf
    subst hf
    cases ps with
    | nil => exact ⟨arr, rfl, hr⟩
    | cons _ _ => simp at hl
  | (off, xs) :: l, ps, cs, cs', arr, hf, hl, hk, hr => by
    cases ps with
    | nil => simp at hl
    | cons p ps =>
      obtain ⟨i, v⟩ := p
      simp only [fill] at hf
      split at hf
      case h_2 => cases hf
      rename_i cs1 hu
      obtain ⟨h1, h2⟩ := hk 0 (off, xs) (i, v) rfl rfl
      obtain ⟨h3, h4, h5⟩ := upd_ok hu (Nat.le_of_eq hr.1.symm) h2 hr.2
      obtain ⟨arr', h6, h7⟩ := run_fill (arr := setFrom arr off v.cells.toList) hf (by simpa using hl) (fun k x q hx hq => hk (k + 1) x q (by simpa using hx) (by simpa using hq)) ⟨by rw [setFrom_size, hr.1, h3], h5⟩
      refine ⟨arr', ?_, h7⟩
      have h8 : v.cells.size = xs.length := h2.1
      have h9 : off + v.cells.size ≤ arr.size := by rw [hr.1]; exact h4
      simp only [Instr.fill, h1]
      rw [if_neg (by simp only [h8, ne_eq, not_true_eq_false, decide_false, Bool.false_or, decide_eq_true_eq]; rw [h8] at h9; omega)]
      rw [setFrom_foldl]
      exact h6

theorem ofVs_ok : ∀ {vs : List Value} {l : List AV}, ofVs vs = some l → vs.length = l.length ∧ ∀ (j : Nat) (u : AV) (c : Value), l[j]? = some u → vs[j]? = some c → RV F w ι u c
  | [], l, h => by
    simp only [ofVs, Option.some.injEq] at h
    subst h
    exact ⟨rfl, fun j u c hu => by simp at hu⟩
  | v :: vs, l, h => by
    simp only [ofVs] at h
    split at h
    · rename_i x r h1 h2
      injection h with h
      subst h
      obtain ⟨h3, h4⟩ := ofVs_ok h2
      refine ⟨by simp [h3], fun j u c hu hc => ?_⟩
      cases j with
      | zero =>
        simp only [List.getElem?_cons_zero, Option.some.injEq] at hu hc
        subst hu
        subst hc
        exact ofV_rv h1
      | succ j => exact h4 j u c (by simpa using hu) (by simpa using hc)
    · cases h

theorem ofZero_ok {z : Value} {l : List AV} (h : ofZero z = some l) : RVs F w ι l z.cells := by
  unfold ofZero at h
  split at h
  · rename_i cs
    obtain ⟨h1, h2⟩ := ofVs_ok (F := F) (w := w) (ι := ι) h
    refine ⟨by simpa [Value.cells] using h1, fun j u c hu hc => h2 j u c hu ?_⟩
    simpa [Value.cells] using hc
  · rename_i hne
    split at h
    · rename_i x hx
      injection h with h
      subst h
      have := ofV_rv (F := F) (w := w) (ι := ι) hx
      have hz : z.cells = #[z] := by cases z <;> first | rfl | exact absurd rfl (hne _)
      rw [hz]
      refine ⟨rfl, fun j u c hu hc => ?_⟩
      cases j with
      | zero =>
        simp at hu hc
        subst hu
        subst hc
        exact this
      | succ j => simp at hu
    · cases h

theorem evParts_ok (H : Sim F ι lam n e h a w) : ∀ {xs : List (Nat × Nat × Operand)} {l : List (Nat × List AV)}, evParts e xs = some l →
    l.length = xs.length ∧ ∀ (k : Nat) (x : Nat × List AV) (p : Nat × Nat × Operand), l[k]? = some x → xs[k]? = some p → x.1 = p.1 ∧ x.2.length = p.2.1 ∧ RVs F w ι x.2 (a.eval p.2.2).cells
  | [], l, hh => by
    simp only [evParts, Option.some.injEq] at hh
    subst hh
    exact ⟨rfl, fun k x p hx => by simp at hx⟩
  | (off, m, y) :: xs, l, hh => by
    simp only [evParts] at hh
    split at hh
    case h_2 => cases hh
    rename_i r l' h1 h2
    cases hb : ((cellsOf r).length == m)
    · simp [hb] at hh
    rw [hb] at hh
    simp only [cond_true, Option.some.injEq] at hh
    subst hh
    obtain ⟨h3, h4⟩ := evParts_ok H h2
    refine ⟨by simp [h3], fun k x p hx hp => ?_⟩
    cases k with
    | zero =>
      simp only [List.getElem?_cons_zero, Option.some.injEq] at hx hp
      subst hx
      subst hp
      exact ⟨rfl, by simpa using hb, cells_of (evA_ok H h1) (evA_notjunk h1)⟩
    | succ k => exact h4 k x p (by simpa using hx) (by simpa using hp)

theorem evElems_ok (H : Sim F ι lam n e h a w) {esz : Nat} : ∀ {xs : List (Nat × Operand)} {l : List (Nat × List AV)}, evElems e esz xs = some l →
    l.length = xs.length ∧ ∀ (k : Nat) (x : Nat × List AV) (p : Nat × Operand), l[k]? = some x → xs[k]? = some p → x.1 = p.1 * esz ∧ x.2.length = esz ∧ RVs F w ι x.2 (a.eval p.2).cells
  | [], l, hh => by
    simp only [evElems, Option.some.injEq] at hh
    subst hh
    exact ⟨rfl, fun k x p hx => by simp at hx⟩
  | (i, y) :: xs, l, hh => by
    simp only [evElems] at hh
    split at hh
    case h_2 => cases hh
    rename_i r l' h1 h2
    cases hb : ((cellsOf r).length == esz)
    · simp [hb] at hh
    rw [hb] at hh
    simp only [cond_true, Option.some.injEq] at hh
    subst hh
    obtain ⟨h3, h4⟩ := evElems_ok H h2
    refine ⟨by simp [h3], fun k x p hx hp => ?_⟩
    cases k with
    | zero =>
      simp only [List.getElem?_cons_zero, Option.some.injEq] at hx hp
      subst hx
      subst hp
      exact ⟨rfl, by simpa using hb, cells_of (evA_ok H h1) (evA_notjunk h1)⟩
    | succ k => exact h4 k x p (by simpa using hx) (by simpa using hp)

theorem partsOf_ok {fs : Array Field} : ∀ {xs : List (Nat × Operand)} {l : List (Nat × Nat × Operand)}, partsOf tt fs xs = some l →
    l.length = xs.length ∧ ∀ (k : Nat) (x : Nat × Nat × Operand) (p : Nat × Operand), l[k]? = some x → xs[k]? = some p → x.2.2 = p.2 ∧ ∃ f j, fs[p.1]? = some f ∧ tt f.type = some j ∧ x.1 = f.offset ∧ x.2.1 = j.size
  | [], l, hh => by
    simp only [partsOf, Option.some.injEq] at hh
    subst hh
    exact ⟨rfl, fun k x p hx => by simp at hx⟩
  | (i, y) :: xs, l, hh => by
    simp only [partsOf] at hh
    split at hh
    case h_2 => cases hh
    rename_i f l' h1 h2
    split at hh
    case h_2 => cases hh
    rename_i j hj
    injection hh with hh
    subst hh
    obtain ⟨h3, h4⟩ := partsOf_ok h2
    refine ⟨by simp [h3], fun k x p hx hp => ?_⟩
    cases k with
    | zero =>
      simp only [List.getElem?_cons_zero, Option.some.injEq] at hx hp
      subst hx
      subst hp
      exact ⟨rfl, f, j, h1, hj, rfl, rfl⟩
    | succ k => exact h4 k x p (by simpa using hx) (by simpa using hp)

theorem run_places' (T : TOk P tt) (w : World) : ∀ (fs : List Field), (fs.all fun f => (tt f.type).isSome) = true →
    (fs.mapM fun f => (do pure (f.offset, ← sizeOf f.type) : Sem (Nat × Nat))).run P w = .ok (fs.map fun f => (f.offset, ((tt f.type).map (·.size)).getD 0)) w
  | [], _ => rfl
  | f :: fs, hh => by
    simp only [List.all_cons, Bool.and_eq_true] at hh
    obtain ⟨j, hj⟩ := Option.isSome_iff_exists.1 hh.1
    simp only [List.mapM_cons, Sem.run_bind, T.size hj, Result.andThen_ok, Sem.run_pure, run_places' T w fs hh.2, hj, Option.map_some, Option.getD_some, List.map_cons]

theorem ok_build_struct (T : TOk P tt) (H : Sim F ι lam n e h a w) (hd : ∀ d, dst = some d → d < n) {t : TypeId} {parts : Array (Nat × Operand)} {i : TI} {fs : Array Field} {z : Value} {zs : List AV} {l : List (Nat × Nat × Operand)} (hi : tt t = some i) (hds : i.desc = .struct fs)
    (hz : i.zero = some z) (hzs : ofZero z = some zs) (hl : partsOf tt fs parts.toList = some l) (hall : (fs.toList.all fun f => (tt f.type).isSome) = true) (ho : o.op = .build t parts)
    (ha : aop e h nid dst (.build zs l) = some eff) : Out P F ι lam n e h a w nid dst o (St.eff ⟨e, h, N⟩ dst eff) := by
  simp only [aop] at ha
  split at ha
  case h_2 => cases ha
  rename_i l' hl'
  split at ha
  case h_2 => cases ha
  rename_i cs hcs
  injection ha with ha
  subst ha
  obtain ⟨h1, h2⟩ := evParts_ok H hl'
  obtain ⟨h3, h4⟩ := partsOf_ok hl
  have hm := run_places' T w fs.toList hall
  obtain ⟨arr, h5, h6⟩ := run_fill (F := F) (w := w) (ι := ι) (place := fun k => (fs.toList.map fun f => (f.offset, ((tt f.type).map (·.size)).getD 0))[k]?) (ps := (parts.map fun p => (p.1, a.eval p.2)).toList) (arr := z.cells) hcs
    (by simp [h1, h3]) (fun k x p hx hp => by
      simp only [Array.toList_map, List.getElem?_map] at hp
      cases hq : parts.toList[k]? with
      | none => rw [hq] at hp; simp at hp
      | some q =>
        rw [hq] at hp
        simp only [Option.map_some, Option.some.injEq] at hp
        subst hp
        have hk : k < l.length := by rw [h3]; exact (List.getElem?_eq_some_iff.1 hq).1
        obtain ⟨h7, f, j, h8, h9, h10, h11⟩ := h4 k _ q (List.getElem?_eq_getElem hk) hq
        obtain ⟨h12, h13, h14⟩ := h2 k x _ hx (List.getElem?_eq_getElem hk)
        refine ⟨?_, by rw [h7] at h14; exact h14⟩
        simp only [List.getElem?_map, Array.getElem?_toList, h8, Option.map_some, h9, Option.getD_some]
        rw [h12, h13, h10, h11]) (ofZero_ok hzs)
  refine quiet_val H hd (v := .agg arr) ?_ (.agg _ _ _ h6.1 h6.2)
  have hmA : (fs.mapM fun f => (do pure (f.offset, ← sizeOf f.type) : Sem (Nat × Nat))).run P w = .ok (fs.toList.map fun f => (f.offset, ((tt f.type).map (·.size)).getD 0)).toArray w := by
    rw [Array.mapM_eq_mapM_toList, Sem.run_map, hm]
    rfl
  simp only [execOp, ho, Instr.build, Sem.run_bind, T.zero hi hz, T.desc hi, hds, Result.andThen_ok, hmA, List.getElem?_toArray, h5, Sem.run_pure]

theorem ok_build_array (T : TOk P tt) (H : Sim F ι lam n e h a w) (hd : ∀ d, dst = some d → d < n) {t el : TypeId} {parts : Array (Nat × Operand)} {i j : TI} {m : Nat} {z : Value} {zs : List AV} (hi : tt t = some i) (hds : i.desc = .array m el)
    (hz : i.zero = some z) (hzs : ofZero z = some zs) (hj : tt el = some j) (ho : o.op = .build t parts)
    (ha : aop e h nid dst (.build zs (parts.toList.map fun p => (p.1 * j.size, j.size, p.2))) = some eff) : Out P F ι lam n e h a w nid dst o (St.eff ⟨e, h, N⟩ dst eff) := by
  simp only [aop] at ha
  split at ha
  case h_2 => cases ha
  rename_i l' hl'
  split at ha
  case h_2 => cases ha
  rename_i cs hcs
  injection ha with ha
  subst ha
  obtain ⟨h1, h2⟩ := evParts_ok H hl'
  obtain ⟨arr, h5, h6⟩ := run_fill (F := F) (w := w) (ι := ι) (place := fun i => some (i * j.size, j.size)) (ps := (parts.map fun p => (p.1, a.eval p.2)).toList) (arr := z.cells) hcs
    (by simp [h1]) (fun k x p hx hp => by
      simp only [Array.toList_map, List.getElem?_map] at hp
      cases hq : parts.toList[k]? with
      | none => rw [hq] at hp; simp at hp
      | some q =>
        rw [hq] at hp
        simp only [Option.map_some, Option.some.injEq] at hp
        subst hp
        obtain ⟨h12, h13, h14⟩ := h2 k x (q.1 * j.size, j.size, q.2) hx (by rw [List.getElem?_map, hq]; rfl)
        exact ⟨by rw [h12, h13], h14⟩) (ofZero_ok hzs)
  refine quiet_val H hd (v := .agg arr) ?_ (.agg _ _ _ h6.1 h6.2)
  simp only [execOp, ho, Instr.build, Sem.run_bind, T.zero hi hz, T.desc hi, hds, Result.andThen_ok, T.size hj, h5, Sem.run_pure]

end
end Go.AM

/- AM, part 10: comparison; maps are read. -/
namespace Go.AM
noncomputable section
set_option linter.unusedVariables false
set_option linter.unusedSimpArgs false

variable {P : Program} {tt : TypeId → Option TI}
variable {F : Nat → Prop} {ι : Id → Option Nat} {lam : Nat → Nat} {n : Nat} {e : Env} {h : Heap} {a : Act} {w : World}
variable {nid : Id} {dst : Option Nat} {o : Oper} {N : Nat} {eff : Eff}

def isEq : Bool → BinOp
  | false => .eql
  | true => .neq

section
variable {t : TypeId} {i : TI} (d : Nat)
theorem eq_bool (T : TOk P tt) (hi : tt t = some i) (hd : i.desc = .bool) (b c : Bool) (W : World) : (Op.equalIn (d + 1) t (.bool b) (.bool c)).run P W = .ok (b == c) W := by
  simp only [Op.equalIn, Sem.run_bind, T.desc hi, hd, Result.andThen_ok, Sem.run_pure, Option.isNone_none, Option.isNone_some]
theorem eq_slice_nn (T : TOk P tt) (hi : tt t = some i) {el : TypeId} (hd : i.desc = .slice el) (W : World) : (Op.equalIn (d + 1) t (.slice none 0 0) (.slice none 0 0)).run P W = .ok true W := by
  simp only [Op.equalIn, Sem.run_bind, T.desc hi, hd, Result.andThen_ok, Sem.run_pure, Option.isNone_none, Option.isNone_some]
theorem eq_slice_ns (T : TOk P tt) (hi : tt t = some i) {el : TypeId} (hd : i.desc = .slice el) (ad : Addr) (k1 k2 : Nat) (W : World) : (Op.equalIn (d + 1) t (.slice none 0 0) (.slice (some ad) k1 k2)).run P W = .ok false W := by
  simp only [Op.equalIn, Sem.run_bind, T.desc hi, hd, Result.andThen_ok, Sem.run_pure, Option.isNone_none, Option.isNone_some]
theorem eq_slice_sn (T : TOk P tt) (hi : tt t = some i) {el : TypeId} (hd : i.desc = .slice el) (ad : Addr) (k1 k2 : Nat) (W : World) : (Op.equalIn (d + 1) t (.slice (some ad) k1 k2) (.slice none 0 0)).run P W = .ok false W := by
  simp only [Op.equalIn, Sem.run_bind, T.desc hi, hd, Result.andThen_ok, Sem.run_pure, Option.isNone_none, Option.isNone_some]
theorem eq_map_nn (T : TOk P tt) (hi : tt t = some i) {u v : TypeId} (hd : i.desc = .map u v) (W : World) : (Op.equalIn (d + 1) t (.map none) (.map none)).run P W = .ok true W := by
  simp only [Op.equalIn, Sem.run_bind, T.desc hi, hd, Result.andThen_ok, Sem.run_pure, Option.isNone_none, Option.isNone_some]
theorem eq_map_ns (T : TOk P tt) (hi : tt t = some i) {u v : TypeId} (hd : i.desc = .map u v) (b : Nat) (W : World) : (Op.equalIn (d + 1) t (.map none) (.map (some b))).run P W = .ok false W := by
  simp only [Op.equalIn, Sem.run_bind, T.desc hi, hd, Result.andThen_ok, Sem.run_pure, Option.isNone_none, Option.isNone_some]
theorem eq_map_sn (T : TOk P tt) (hi : tt t = some i) {u v : TypeId} (hd : i.desc = .map u v) (b : Nat) (W : World) : (Op.equalIn (d + 1) t (.map (some b)) (.map none)).run P W = .ok false W := by
  simp only [Op.equalIn, Sem.run_bind, T.desc hi, hd, Result.andThen_ok, Sem.run_pure, Option.isNone_none, Option.isNone_some]
theorem eq_ptr_nn (T : TOk P tt) (hi : tt t = some i) {el : TypeId} (hd : i.desc = .pointer el) (W : World) : (Op.equalIn (d + 1) t (.pointer none) (.pointer none)).run P W = .ok true W := by
  simp only [Op.equalIn, Sem.run_bind, T.desc hi, hd, Result.andThen_ok, Sem.run_pure, Option.isNone_none, Option.isNone_some]
theorem eq_ptr_ns (T : TOk P tt) (hi : tt t = some i) {el : TypeId} (hd : i.desc = .pointer el) (ad : Addr) (W : World) : (Op.equalIn (d + 1) t (.pointer none) (.pointer (some ad))).run P W = .ok false W := by
  simp only [Op.equalIn, Sem.run_bind, T.desc hi, hd, Result.andThen_ok, Sem.run_pure, Option.isNone_none, Option.isNone_some]
theorem eq_ptr_sn (T : TOk P tt) (hi : tt t = some i) {el : TypeId} (hd : i.desc = .pointer el) (ad : Addr) (W : World) : (Op.equalIn (d + 1) t (.pointer (some ad)) (.pointer none)).run P W = .ok false W := by
  simp only [Op.equalIn, Sem.run_bind, T.desc hi, hd, Result.andThen_ok, Sem.run_pure, Option.isNone_none, Option.isNone_some]
theorem eq_func_nn (T : TOk P tt) (hi : tt t = some i) {u v : Array TypeId} {b : Bool} (hd : i.desc = .func u v b) (W : World) : (Op.equalIn (d + 1) t .nilFunc .nilFunc).run P W = .ok true W := by
  simp only [Op.equalIn, Sem.run_bind, T.desc hi, hd, Result.andThen_ok, Sem.run_pure, Option.isNone_none, Option.isNone_some]
theorem eq_func_ns (T : TOk P tt) (hi : tt t = some i) {u v : Array TypeId} {b : Bool} (hd : i.desc = .func u v b) (fn : Fn) (xs ys : Array Value) (W : World) : (Op.equalIn (d + 1) t .nilFunc (.func fn xs ys)).run P W = .ok false W := by
  simp only [Op.equalIn, Sem.run_bind, T.desc hi, hd, Result.andThen_ok, Sem.run_pure, Option.isNone_none, Option.isNone_some]
theorem eq_func_sn (T : TOk P tt) (hi : tt t = some i) {u v : Array TypeId} {b : Bool} (hd : i.desc = .func u v b) (fn : Fn) (xs ys : Array Value) (W : World) : (Op.equalIn (d + 1) t (.func fn xs ys) .nilFunc).run P W = .ok false W := by
  simp only [Op.equalIn, Sem.run_bind, T.desc hi, hd, Result.andThen_ok, Sem.run_pure, Option.isNone_none, Option.isNone_some]
end

theorem ckOf_desc {t : TypeId} {c : CK} (hc : ckOf tt t = some c) : ∃ i, tt t = some i ∧ ((∃ k, c = .int k ∧ i.desc = .int k) ∨ (c = .str ∧ i.desc = .string) ∨ (c = .bool ∧ i.desc = .bool)) := by
  unfold ckOf at hc
  split at hc
  case h_2 => cases hc
  rename_i i hi
  split at hc
  · rename_i k hd; injection hc with hc; exact ⟨i, hi, .inl ⟨k, hc.symm, hd⟩⟩
  · rename_i hd; injection hc with hc; exact ⟨i, hi, .inr (.inl ⟨hc.symm, hd⟩)⟩
  · rename_i hd; injection hc with hc; exact ⟨i, hi, .inr (.inr ⟨hc.symm, hd⟩)⟩
  · cases hc

theorem eqGuard_plain {neq : Bool} {t : TypeId} {p q : Value} (hp : (∀ cs, p ≠ .agg cs) ∧ p ≠ .nilIface) (x y : Operand) : (eqGuard (isEq neq) t x y p q).run P w = .ok () w := by
  cases neq <;> cases p <;> simp_all [eqGuard, isEq]

theorem run_eq1 (T : TOk P tt) {t : TypeId} {c : CK} (hc : ckOf tt t = some c) {p q : AV} {r : Bool} (hr : keq1 c p q = some r) {cp cq : Value} (hp : RV F w ι p cp) (hq : RV F w ι q cq) (neq : Bool) (x y : Operand) (W : World) :
    (do eqGuard (isEq neq) t x y cp cq; binOp (isEq neq) t cp cq : Sem Value).run P W = .ok (.bool (bif neq then !r else r)) W := by
  obtain ⟨i, hi, hd⟩ := ckOf_desc hc
  unfold keq1 at hr
  split at hr
  · rename_i k j b j' b'
    have h1 := hp.int_inv
    have h2 := hq.int_inv
    subst h1
    subst h2
    cases hb : (j == k && j' == k)
    · simp [hb] at hr
    rw [hb] at hr
    simp only [cond_true, Option.some.injEq] at hr
    subst hr
    simp only [Bool.and_eq_true, beq_iff_eq] at hb
    obtain ⟨rfl, rfl⟩ := hb
    rw [Sem.run_bind, eqGuard_plain (by simp)]
    cases neq
    · simp only [isEq, binOp, ne_eq, not_true_eq_false, if_false, Op.intCmp, Result.andThen_ok, Sem.run_pure, cond_false]
    · simp only [isEq, binOp, ne_eq, not_true_eq_false, if_false, Op.intCmp, Result.andThen_ok, Sem.run_pure, cond_true]
      rfl
  · rename_i b b'
    have h1 := hp.str_inv
    have h2 := hq.str_inv
    subst h1
    subst h2
    injection hr with hr
    subst hr
    rw [Sem.run_bind, eqGuard_plain (by simp)]
    rw [beq_toListBytes]
    cases neq <;> rfl
  · rename_i b b'
    have h1 := hp.bool_inv
    have h2 := hq.bool_inv
    subst h1
    subst h2
    injection hr with hr
    subst hr
    rcases hd with ⟨k, h1, _⟩ | ⟨h1, _⟩ | ⟨_, hd⟩
    · cases h1
    · cases h1
    have hq : (Op.equal t (.bool b) (.bool b')).run P W = .ok (b == b') W := eq_bool 9999 T hi hd b b' W
    rw [Sem.run_bind, eqGuard_plain (by simp)]
    cases neq
    · simp only [isEq, binOp, Sem.run_bind, hq, Result.andThen_ok, Sem.run_pure, cond_false]
    · simp only [isEq, binOp, Sem.run_bind, hq, Result.andThen_ok, Sem.run_pure, cond_true]
  · cases hr

theorem ekOf_cases {t : TypeId} {k : EK} (hk : ekOf tt t = some k) : (∃ c, ckOf tt t = some c ∧ k = .one c) ∨ ∃ i, tt t = some i ∧ ((∃ l, i.flat = some l ∧ k = .flat l) ∨ (∃ el, i.desc = .slice el ∧ k = .nilSlice) ∨ (∃ u v, i.desc = .map u v ∧ k = .nilMap) ∨
    (∃ el, i.desc = .pointer el ∧ k = .ptr) ∨ (∃ u v b, i.desc = .func u v b ∧ k = .func)) := by
  unfold ekOf at hk
  split at hk
  · rename_i c hc; injection hk with hk; exact .inl ⟨c, hc, hk.symm⟩
  · split at hk
    case h_2 => cases hk
    rename_i i hi
    refine .inr ⟨i, hi, ?_⟩
    split at hk
    · rename_i l hl; injection hk with hk; exact .inl ⟨l, hl, hk.symm⟩
    · split at hk
      · rename_i el hd; injection hk with hk; exact .inr (.inl ⟨el, hd, hk.symm⟩)
      · rename_i u v hd; injection hk with hk; exact .inr (.inr (.inl ⟨u, v, hd, hk.symm⟩))
      · rename_i el hd; injection hk with hk; exact .inr (.inr (.inr (.inl ⟨el, hd, hk.symm⟩)))
      · rename_i u v b hd; injection hk with hk; exact .inr (.inr (.inr (.inr ⟨u, v, b, hd, hk.symm⟩)))
      · cases hk

theorem run_eqv (T : TOk P tt) (G : FOk P tt) {t : TypeId} {k : EK} (hk : ekOf tt t = some k) {p q : AV} {r : Bool} (hr : eqv k p q = some r) {cp cq : Value} (hp : RV F w ι p cp) (hq : RV F w ι q cq) (neq : Bool) (x y : Operand) :
    (do eqGuard (isEq neq) t x y cp cq; binOp (isEq neq) t cp cq : Sem Value).run P w = .ok (.bool (bif neq then !r else r)) w := by
  have fin : ∀ {r' : Bool} (hg : ∀ x y, (eqGuard (isEq neq) t x y cp cq).run P w = .ok () w) (he : (Op.equalIn (9999 + 1) t cp cq).run P w = .ok r' w) (hb : binOp .eql t cp cq = (do pure (.bool (← Op.equal t cp cq))) ∧ binOp .neq t cp cq = (do pure (.bool (!(← Op.equal t cp cq))))),
      (do eqGuard (isEq neq) t x y cp cq; binOp (isEq neq) t cp cq : Sem Value).run P w = .ok (.bool (bif neq then !r' else r')) w := by
    intro r' hg he hb
    have he' : (Op.equal t cp cq).run P w = .ok r' w := he
    simp only [Sem.run_bind, hg, Result.andThen_ok]
    cases neq
    · simp only [isEq, hb.1, Sem.run_bind, he', Result.andThen_ok, Sem.run_pure, cond_false]
    · simp only [isEq, hb.2, Sem.run_bind, he', Result.andThen_ok, Sem.run_pure, cond_true]
  rcases ekOf_cases hk with ⟨c, hc, rfl⟩ | ⟨i, hi, hcase⟩
  · have hr' : keq1 c p q = some r := by
      unfold eqv at hr
      split at hr <;> first | (rename_i h1 _ _; cases h1; done) | (rename_i h1; cases h1; done) | skip
      all_goals first | (exact hr) | (simp only [keq] at hr; exact hr)
    exact run_eq1 T hc hr' hp hq neq x y w
  · rcases hcase with ⟨l, hl, rfl⟩ | ⟨el, hd, rfl⟩ | ⟨u, v, hd, rfl⟩ | ⟨el, hd, rfl⟩ | ⟨u, v, b, hd, rfl⟩
    · have hr' : keq (.flat l) p q = some r := by simpa [eqv] using hr
      unfold keq at hr'
      split at hr'
      · rename_i h1; cases h1
      · rename_i l' xs ys h1
        injection h1 with h1
        subst h1
        obtain ⟨vs, rfl, h2, h3⟩ := hp.agg_inv
        obtain ⟨vs', rfl, h4, h5⟩ := hq.agg_inv
        refine fin (fun x y => ?_) (G.equal t i l hi hl F w w ι xs ys vs vs' r hr' h2 h4 h3 h5) ⟨rfl, rfl⟩
        have hgt := G.guard t i l hi hl
        cases neq <;> simp [eqGuard, isEq, hgt]
      · cases hr'
    · cases p <;> cases q <;> simp only [eqv, keq, Option.some.injEq, reduceCtorEq] at hr <;> subst hr
      · have := hp.nils_inv; subst this
        have := hq.nils_inv; subst this
        exact fin (fun x y => eqGuard_plain (by simp) x y) (eq_slice_nn 9999 T hi hd _) ⟨rfl, rfl⟩
      · have := hp.nils_inv; subst this
        obtain ⟨b, cap, arr, ety, fz, rfl, _⟩ := hq.slice_inv
        exact fin (fun x y => eqGuard_plain (by simp) x y) (eq_slice_ns 9999 T hi hd _ _ _ _) ⟨rfl, rfl⟩
      · have := hq.nils_inv; subst this
        obtain ⟨b, cap, arr, ety, fz, rfl, _⟩ := hp.slice_inv
        exact fin (fun x y => eqGuard_plain (by simp) x y) (eq_slice_sn 9999 T hi hd _ _ _ _) ⟨rfl, rfl⟩
    · cases p <;> cases q <;> simp only [eqv, keq, Option.some.injEq, reduceCtorEq] at hr <;> subst hr
      · have := hp.nilm_inv; subst this
        have := hq.nilm_inv; subst this
        exact fin (fun x y => eqGuard_plain (by simp) x y) (eq_map_nn 9999 T hi hd _) ⟨rfl, rfl⟩
      · have := hp.nilm_inv; subst this
        obtain ⟨b, rfl, _⟩ := hq.map_inv
        exact fin (fun x y => eqGuard_plain (by simp) x y) (eq_map_ns 9999 T hi hd _ _) ⟨rfl, rfl⟩
      · have := hq.nilm_inv; subst this
        obtain ⟨b, rfl, _⟩ := hp.map_inv
        exact fin (fun x y => eqGuard_plain (by simp) x y) (eq_map_sn 9999 T hi hd _ _) ⟨rfl, rfl⟩
    · cases p <;> cases q <;> simp only [eqv, keq, Option.some.injEq, reduceCtorEq] at hr <;> subst hr
      · have := hp.nilp_inv; subst this
        have := hq.nilp_inv; subst this
        exact fin (fun x y => eqGuard_plain (by simp) x y) (eq_ptr_nn 9999 T hi hd _) ⟨rfl, rfl⟩
      · have := hp.nilp_inv; subst this
        obtain ⟨b, rfl, _⟩ := hq.ptr_inv
        exact fin (fun x y => eqGuard_plain (by simp) x y) (eq_ptr_ns 9999 T hi hd _ _) ⟨rfl, rfl⟩
      · have := hp.nilp_inv; subst this
        cases hq
        exact fin (fun x y => eqGuard_plain (by simp) x y) (eq_ptr_ns 9999 T hi hd _ _) ⟨rfl, rfl⟩
      · have := hq.nilp_inv; subst this
        obtain ⟨b, rfl, _⟩ := hp.ptr_inv
        exact fin (fun x y => eqGuard_plain (by simp) x y) (eq_ptr_sn 9999 T hi hd _ _) ⟨rfl, rfl⟩
      · have := hq.nilp_inv; subst this
        cases hp
        exact fin (fun x y => eqGuard_plain (by simp) x y) (eq_ptr_sn 9999 T hi hd _ _) ⟨rfl, rfl⟩
    · cases p <;> cases q <;> simp only [eqv, keq, Option.some.injEq, reduceCtorEq] at hr <;> subst hr
      · have := hp.nilf_inv; subst this
        have := hq.nilf_inv; subst this
        exact fin (fun x y => eqGuard_plain (by simp) x y) (eq_func_nn 9999 T hi hd _) ⟨rfl, rfl⟩
      · have := hp.nilf_inv; subst this
        obtain ⟨xs, ys, rfl, _⟩ := hq.func_inv
        exact fin (fun x y => eqGuard_plain (by simp) x y) (eq_func_ns 9999 T hi hd _ _ _ _) ⟨rfl, rfl⟩
      · have := hq.nilf_inv; subst this
        obtain ⟨xs, ys, rfl, _⟩ := hp.func_inv
        exact fin (fun x y => eqGuard_plain (by simp) x y) (eq_func_sn 9999 T hi hd _ _ _ _) ⟨rfl, rfl⟩

theorem ok_eqv (T : TOk P tt) (G : FOk P tt) (H : Sim F ι lam n e h a w) (hd : ∀ d, dst = some d → d < n) {neq : Bool} {t u : TypeId} {x y : Operand} {k : EK} (hk : ekOf tt t = some k) (ho : o.op = .binOp (isEq neq) t x y u)
    (ha : aop e h nid dst (.eqv neq k x y) = some eff) : Out P F ι lam n e h a w nid dst o (St.eff ⟨e, h, N⟩ dst eff) := by
  simp only [aop] at ha
  split at ha
  case h_2 => cases ha
  rename_i p q h1 h2
  split at ha
  case h_2 => cases ha
  rename_i r hr
  injection ha with ha
  subst ha
  have h3 := run_eqv (P := P) T G hk hr (evA_ok H h1) (evA_ok H h2) neq x y
  refine quiet_val H hd (v := .bool (bif neq then !r else r)) ?_ (.bool _ _)
  simp only [execOp, ho]
  rw [Sem.run_bind, h3]
  rfl

/-! ### maps -/
theorem beq_bytes {a b : ByteArray} (hk : (a == b) = true) : a = b := by
  obtain ⟨x⟩ := a
  obtain ⟨y⟩ := b
  have h1 : (x == y) = true := hk
  rw [eq_of_beq h1]
theorem keq1_eq {c : CK} {p q : AV} (hk : keq1 c p q = some true) : p = q := by
  unfold keq1 at hk
  split at hk
  · rename_i k j a j' b
    cases hb : (j == k && j' == k)
    · simp [hb] at hk
    rw [hb] at hk
    simp only [Bool.and_eq_true, beq_iff_eq] at hb
    simp only [cond_true, Option.some.injEq, beq_iff_eq] at hk
    rw [hb.1, hb.2, hk]
  · rename_i a b
    simp only [Option.some.injEq] at hk
    rw [beq_bytes hk]
  · rename_i a b
    simp only [Option.some.injEq, beq_iff_eq] at hk
    rw [hk]
  · cases hk
theorem keqs_eq : ∀ {l : List CK} {x y : List AV}, keqs l x y = some true → x = y
  | [], x, y, hk => by
    cases x with
    | nil =>
      cases y with
      | nil => rfl
      | cons q y => simp [keqs] at hk
    | cons p x => simp [keqs] at hk
  | c :: l, x, y, hk => by
    cases x with
    | nil => simp [keqs] at hk
    | cons p x =>
      cases y with
      | nil => simp [keqs] at hk
      | cons q y =>
        simp only [keqs] at hk
        split at hk
        · rename_i r t h1 h2
          simp only [Option.some.injEq, Bool.and_eq_true] at hk
          obtain ⟨rfl, rfl⟩ := hk
          rw [keq1_eq h1, keqs_eq h2]
        · cases hk
theorem keq_eq {k : EK} {p q : AV} (hk : keq k p q = some true) : p = q := by
  unfold keq at hk
  split at hk
  · exact keq1_eq hk
  · rw [keqs_eq hk]
  · cases hk

/-- A key of a kind reads in one way. -/
theorem fits1_same {c : CK} {p : AV} (hf : fits1 c p = true) {F' : Nat → Prop} {w' : World} {ι' : Id → Option Nat} {u v : Value} (h1 : RV F w ι p u) (h2 : RV F' w' ι' p v) : u = v := by
  unfold fits1 at hf
  split at hf
  · rw [h1.int_inv, h2.int_inv]
  · rw [h1.str_inv, h2.str_inv]
  · rw [h1.bool_inv, h2.bool_inv]
  · cases hf
theorem fitss_get {l : List CK} : ∀ {x : List AV}, fitss l x = true → ∀ (j : Nat) (u : AV), x[j]? = some u → ∃ c, fits1 c u = true := by
  induction l with
  | nil =>
    intro x hf j u hu
    cases x with
    | nil => simp at hu
    | cons p x => simp [fitss] at hf
  | cons c l ih =>
    intro x hf j u hu
    cases x with
    | nil => simp at hu
    | cons p x =>
      simp only [fitss, Bool.and_eq_true] at hf
      cases j with
      | zero => simp only [List.getElem?_cons_zero, Option.some.injEq] at hu; subst hu; exact ⟨c, hf.1⟩
      | succ j => exact ih hf.2 j u (by simpa using hu)
theorem fits_same {k : EK} {p : AV} (hf : fits k p = true) {F' : Nat → Prop} {w' : World} {ι' : Id → Option Nat} {u v : Value} (h1 : RV F w ι p u) (h2 : RV F' w' ι' p v) : u = v := by
  unfold fits at hf
  split at hf
  · exact fits1_same hf h1 h2
  · rename_i l x
    obtain ⟨xs, rfl, h3, h4⟩ := h1.agg_inv
    obtain ⟨ys, rfl, h5, h6⟩ := h2.agg_inv
    congr 1
    apply Array.ext (by rw [h3, h5])
    intro j hj hj'
    have hjx : j < x.length := by omega
    obtain ⟨c, hc⟩ := fitss_get hf j _ (List.getElem?_eq_getElem hjx)
    exact fits1_same hc (h4 j _ _ (List.getElem?_eq_getElem hjx) (Array.getElem?_eq_getElem hj)) (h6 j _ _ (List.getElem?_eq_getElem hjx) (Array.getElem?_eq_getElem hj'))
  · cases hf

theorem sameBits1 {c : CK} {p : AV} (hf : fits1 c p = true) {u : Value} (h1 : RV F w ι p u) (m : Nat) : Instr.sameBits m u u = true := by
  unfold fits1 at hf
  split at hf
  · rw [h1.int_inv]; cases m <;> simp [Instr.sameBits]
  · rename_i s
    have hs : (s == s) = true := by obtain ⟨x⟩ := s; show (x == x) = true; simp
    rw [h1.str_inv]; cases m <;> simp [Instr.sameBits, hs]
  · rw [h1.bool_inv]; cases m <;> simp [Instr.sameBits]
  · cases hf
theorem sameBits_key {k : EK} {p : AV} (hf : fits k p = true) {u : Value} (h1 : RV F w ι p u) (m : Nat) : Instr.sameBits (m + 1) u u = true := by
  unfold fits at hf
  split at hf
  · exact sameBits1 hf h1 _
  · rename_i l x
    obtain ⟨xs, rfl, h3, h4⟩ := h1.agg_inv
    simp only [Instr.sameBits, BEq.rfl, Bool.true_and, List.all_eq_true]
    rintro ⟨a, b⟩ hab
    obtain ⟨j, hj, hjj⟩ := List.getElem_of_mem hab
    simp only [List.getElem_zip, Prod.mk.injEq] at hjj
    simp only [List.length_zip, Array.length_toList, Nat.min_self] at hj
    have hjx : j < x.length := by omega
    obtain ⟨c, hc⟩ := fitss_get hf j _ (List.getElem?_eq_getElem hjx)
    obtain ⟨rfl, rfl⟩ := hjj
    exact sameBits1 hc (h4 j _ _ (List.getElem?_eq_getElem hjx) (by simp [Array.getElem?_eq_getElem hj])) _
  · cases hf

/-- What is found, told of entries. -/
def foundAt (es : List MapEntry) (m : Nat) : Option Nat → Option (Nat × Value)
  | none => none
  | some j => (es[j - m]?).map fun x => (j, x.val)

theorem findK_range {k : EK} {i : AV} : ∀ {ks : List AV} {m : Nat} {r : Option Nat}, findK k i ks m = some r → ∀ j, r = some j → m ≤ j ∧ j < m + ks.length ∧ ks[j - m]? = some i
  | [], m, r, hh, j, hj => by
    simp only [findK, Option.some.injEq] at hh
    subst hh
    cases hj
  | b :: ks, m, r, hh, j, hj => by
    simp only [findK] at hh
    split at hh
    · rename_i hk
      injection hh with hh
      rw [← hh] at hj
      injection hj with hj
      subst hj
      have := keq_eq hk
      subst this
      simp
    · obtain ⟨h1, h2, h3⟩ := findK_range hh j hj
      refine ⟨by omega, by simp; omega, ?_⟩
      rw [show j - m = (j - (m + 1)) + 1 by omega]
      simpa using h3
    · cases hh

theorem foundAt_cons {e0 : MapEntry} {es : List MapEntry} {m : Nat} {r : Option Nat} (hr : ∀ j, r = some j → m + 1 ≤ j) : foundAt (e0 :: es) m r = foundAt es (m + 1) r := by
  cases r with
  | none => rfl
  | some j =>
    have := hr j rfl
    simp only [foundAt]
    rw [show j - m = (j - (m + 1)) + 1 by omega]
    simp

theorem findNow_ok {c : CK} {d : TypeDesc} (hd : (∃ k, c = .int k ∧ d = .int k) ∨ (c = .str ∧ d = .string) ∨ (c = .bool ∧ d = .bool)) {i : AV} {ci : Value} (hi : RV F w ι i ci) : ∀ {ks : List AV} {es : List MapEntry} {m : Nat} {r : Option Nat}, findK (.one c) i ks m = some r → es.length = ks.length →
    (∀ (j : Nat) (x : MapEntry) (u : AV), es[j]? = some x → ks[j]? = some u → RV F w ι u x.key) → Instr.findNow d ci es m = some (foundAt es m r)
  | [], es, m, r, hh, hl, _ => by
    simp only [findK, Option.some.injEq] at hh
    subst hh
    cases es with
    | nil => rfl
    | cons _ _ => simp at hl
  | b :: ks, es, m, r, hh, hl, hr => by
    cases es with
    | nil => simp at hl
    | cons e0 es =>
      have hs : ∀ t, keq1 c i b = some t → Instr.sameNow d ci e0.key = some t := by
        intro t ht
        have hb := hr 0 e0 b rfl rfl
        unfold keq1 at ht
        split at ht
        · rename_i k j a j' a'
          rw [hi.int_inv, hb.int_inv]
          cases hbb : (j == k && j' == k)
          · simp [hbb] at ht
          rw [hbb] at ht
          simp only [Bool.and_eq_true, beq_iff_eq] at hbb
          simp only [cond_true, Option.some.injEq] at ht
          rcases hd with ⟨k', _, rfl⟩ | ⟨h1, _⟩ | ⟨h1, _⟩
          · simp [Instr.sameNow, hbb.1, hbb.2, ht]
          · cases h1
          · cases h1
        · rw [hi.str_inv, hb.str_inv]
          simp only [Option.some.injEq] at ht
          rcases hd with ⟨k', h1, _⟩ | ⟨_, rfl⟩ | ⟨h1, _⟩
          · cases h1
          · simp [Instr.sameNow, ht]
          · cases h1
        · rw [hi.bool_inv, hb.bool_inv]
          simp only [Option.some.injEq] at ht
          rcases hd with ⟨k', h1, _⟩ | ⟨h1, _⟩ | ⟨_, rfl⟩
          · cases h1
          · cases h1
          · simp [Instr.sameNow, ht]
        · cases ht
      simp only [findK, keq] at hh
      split at hh
      · rename_i hk
        injection hh with hh
        subst hh
        simp [Instr.findNow, hs _ hk, foundAt]
      · rename_i hk
        rw [foundAt_cons (fun j hj => (findK_range hh j hj).1)]
        simp only [Instr.findNow, hs _ hk]
        exact findNow_ok hd hi hh (by simpa using hl) (fun j x u hx hu => hr (j + 1) x u (by simpa using hx) (by simpa using hu))
      · cases hh

theorem findAsking_ok (G : FOk P tt) {t : TypeId} {ti : TI} {l : List CK} (hti : tt t = some ti) (hfl : ti.flat = some l) {x : List AV} {xs : Array Value} (hi : RV F w ι (.agg x) (.agg xs)) (W : World) : ∀ {ks : List AV} {es : List MapEntry} {m : Nat} {r : Option Nat}, findK (.flat l) (.agg x) ks m = some r → es.length = ks.length →
    (∀ (j : Nat) (x : MapEntry) (u : AV), es[j]? = some x → ks[j]? = some u → RV F w ι u x.key) → (Instr.findAsking t (.agg xs) es m).run P W = .ok (foundAt es m r) W
  | [], es, m, r, hh, hl, _ => by
    simp only [findK, Option.some.injEq] at hh
    subst hh
    cases es with
    | nil => rfl
    | cons _ _ => simp at hl
  | b :: ks, es, m, r, hh, hl, hr => by
    cases es with
    | nil => simp at hl
    | cons e0 es =>
      obtain ⟨xs', hx1, h1, h2⟩ := hi.agg_inv
      injection hx1 with hx1
      subst hx1
      have hs : ∀ v, keq (.flat l) (.agg x) b = some v → (Op.equal t (.agg xs) e0.key).run P W = .ok v W := by
        intro v hv
        have hb := hr 0 e0 b rfl rfl
        unfold keq at hv
        split at hv
        · rename_i h3; cases h3
        · rename_i l' x' y h3 h4
          injection h3 with h3
          injection h4 with h4
          subst h3
          subst h4
          obtain ⟨ys, h5, h6, h7⟩ := hb.agg_inv
          rw [h5]
          exact G.equal t ti l hti hfl F w W ι x y xs ys v hv h1 h6 h2 h7
        · cases hv
      simp only [findK] at hh
      split at hh
      · rename_i hk
        injection hh with hh
        subst hh
        simp [Instr.findAsking, hs _ hk, foundAt]
      · rename_i hk
        rw [foundAt_cons (fun j hj => (findK_range hh j hj).1)]
        simp only [Instr.findAsking, Sem.run_bind, hs _ hk, Result.andThen_ok, Bool.false_eq_true, if_false]
        exact findAsking_ok G hti hfl hi W hh (by simpa using hl) (fun j x u hx hu => hr (j + 1) x u (by simpa using hx) (by simpa using hu))
      · cases hh

theorem keyOf_cases {t : TypeId} {k : EK} (hk : keyOf tt t = some k) : (∃ c, ckOf tt t = some c ∧ k = .one c) ∨ ∃ i l, tt t = some i ∧ i.flat = some l ∧ k = .flat l := by
  unfold keyOf at hk
  split at hk
  · rename_i c hc
    injection hk with hk
    subst hk
    rcases ekOf_cases hc with ⟨c', h1, h2⟩ | ⟨i, hi, h1⟩
    · injection h2 with h2
      subst h2
      exact .inl ⟨_, h1, rfl⟩
    · rcases h1 with ⟨_, _, h1⟩ | ⟨_, _, h1⟩ | ⟨_, _, _, h1⟩ | ⟨_, _, h1⟩ | ⟨_, _, _, _, h1⟩ <;> cases h1
  · rename_i l hl
    injection hk with hk
    subst hk
    rcases ekOf_cases hl with ⟨c', _, h2⟩ | ⟨i, hi, h1⟩
    · cases h2
    · rcases h1 with ⟨l', h0, h1⟩ | ⟨_, _, h1⟩ | ⟨_, _, _, h1⟩ | ⟨_, _, h1⟩ | ⟨_, _, _, _, h1⟩ <;> first | (cases h1; done) | skip
      injection h1 with h1
      subst h1
      exact .inr ⟨i, _, hi, h0, rfl⟩
  · cases hk

theorem run_findKey (T : TOk P tt) (G : FOk P tt) {t : TypeId} {k : EK} (hk : keyOf tt t = some k) {i : AV} {ci : Value} (hi : RV F w ι i ci) (hf : fits k i = true) {ks : List AV} {es : Array MapEntry} {r : Option Nat} (hr : findK k i ks 0 = some r) (hl : es.size = ks.length)
    (hes : ∀ (j : Nat) (x : MapEntry) (u : AV), es[j]? = some x → ks[j]? = some u → RV F w ι u x.key) (W : World) : (Instr.findKey t ci es.toList).run P W = .ok (foundAt es.toList 0 r) W := by
  have hes' : ∀ (j : Nat) (x : MapEntry) (u : AV), es.toList[j]? = some x → ks[j]? = some u → RV F w ι u x.key := fun j x u hx hu => hes j x u (by simpa using hx) hu
  have hl' : es.toList.length = ks.length := by simpa using hl
  rcases keyOf_cases hk with ⟨c, hc, rfl⟩ | ⟨ti, l, hti, hfl, rfl⟩
  · obtain ⟨ti, hti, hd⟩ := ckOf_desc hc
    simp only [Instr.findKey, Sem.run_bind, T.desc hti, Result.andThen_ok, findNow_ok hd hi hr hl' hes', Sem.run_pure]
  · obtain ⟨fs, hfs⟩ := G.struct t ti l hti hfl
    unfold fits at hf
    split at hf
    · rename_i h1; cases h1
    · rename_i l' x h1
      injection h1 with h1
      subst h1
      obtain ⟨xs, rfl, _, _⟩ := hi.agg_inv
      have ha := findAsking_ok G hti hfl hi W hr hl' hes'
      simp only [Instr.findKey, Sem.run_bind, T.desc hti, Result.andThen_ok, hfs]
      cases hce : es.toList with
      | nil =>
        rw [hce] at ha hl'
        have : ks = [] := List.eq_nil_of_length_eq_zero hl'.symm
        subst this
        simp only [findK, Option.some.injEq] at hr
        subst hr
        rfl
      | cons e0 es' =>
        rw [hce] at ha
        simp only [Instr.findNow, Instr.sameNow]
        exact ha
    · cases hf

theorem run_checkKey1 (T : TOk P tt) {t : TypeId} {c : CK} (hc : ckOf tt t = some c) (em : Bool) (v : Value) (m : Nat) (W : World) : (Instr.checkKey em (m + 1) t v).run P W = .ok () W := by
  obtain ⟨i, hi, hd⟩ := ckOf_desc hc
  rcases hd with ⟨k, _, hd⟩ | ⟨_, hd⟩ | ⟨_, hd⟩ <;> simp only [Instr.checkKey, Sem.run_bind, T.desc hi, hd, Result.andThen_ok, Sem.run_pure]

theorem run_checkKey (T : TOk P tt) (G : FOk P tt) {t : TypeId} {k : EK} (hk : keyOf tt t = some k) {i : AV} {ci : Value} (hi : RV F w ι i ci) (hf : fits k i = true) (em : Bool) (W : World) : (Instr.checkKey em 10000 t ci).run P W = .ok () W := by
  rcases keyOf_cases hk with ⟨c, hc, rfl⟩ | ⟨ti, l, hti, hfl, rfl⟩
  · exact run_checkKey1 T hc em ci 9999 W
  · unfold fits at hf
    split at hf
    · rename_i h1; cases h1
    · rename_i l' x h1
      injection h1 with h1
      subst h1
      obtain ⟨xs, rfl, h2, h3⟩ := hi.agg_inv
      exact G.check t ti l hti hfl em F w W ι x xs hf h2 h3
    · cases hf

theorem mapIx_ok {k : EK} {i : AV} {ks : List AV} {r : Option Nat} (hm : mapIx k i ks = some r) : fits k i = true ∧ findK k i ks 0 = some r := by
  unfold mapIx at hm
  cases hf : fits k i
  · simp [hf] at hm
  · rw [hf] at hm
    exact ⟨rfl, hm⟩

/-- A look-up's answer. -/
theorem lookupIn_ok (T : TOk P tt) (G : FOk P tt) {t u : TypeId} {k : EK} (hk : keyOf tt t = some k) {j : TI} {z : Value} {zz : AV} (hj : tt u = some j) (hz : j.zero = some z) (hzz : RV F w ι zz z) {i : AV} {ci : Value} (hi : RV F w ι i ci) {ks vs : List AV} {es : Array MapEntry} {ok : Bool} {rd : List Key} {eff : Eff}
    (hl : es.size = ks.length) (hvl : vs.length = ks.length) (hes : ∀ (j : Nat) (x : MapEntry) (u : AV), es[j]? = some x → ks[j]? = some u → RV F w ι u x.key) (hev : ∀ (j : Nat) (x : MapEntry) (u : AV), es[j]? = some x → vs[j]? = some u → RV F w ι u x.val)
    (hh : lookupIn k zz i ks vs ok rd = some eff) : ∃ x v, eff = { val := .v x, rd } ∧ RV F w ι x v ∧
      ((∃ q y, (Instr.findKey t ci es.toList).run P w = .ok (some (q, y)) w ∧ v = (if ok then .tuple #[y, .bool true] else y)) ∨ ((Instr.findKey t ci es.toList).run P w = .ok none w ∧ v = (if ok then .tuple #[z, .bool false] else z))) := by
  unfold lookupIn at hh
  split at hh
  · rename_i q hq
    split at hh
    case h_2 => cases hh
    rename_i y hy
    injection hh with hh
    subst hh
    obtain ⟨h1, h2⟩ := mapIx_ok hq
    obtain ⟨_, h3, _⟩ := findK_range h2 q rfl
    have hlt : q < es.size := by omega
    have hfk := run_findKey (P := P) T G hk hi h1 h2 hl hes w
    have hfa : foundAt es.toList 0 (some q) = some (q, es[q].val) := by simp [foundAt, hlt]
    rw [hfa] at hfk
    have hyv := hev q _ y (Array.getElem?_eq_getElem hlt) hy
    cases ok
    · exact ⟨_, es[q].val, rfl, hyv, .inl ⟨_, _, hfk, rfl⟩⟩
    · refine ⟨_, .tuple #[es[q].val, .bool true], rfl, .tuple _ _ _ rfl (fun p u c hu hc => ?_), .inl ⟨_, _, hfk, rfl⟩⟩
      · match p, hu, hc with
        | 0, hu, hc => simp at hu hc; subst hu; subst hc; exact hyv
        | 1, hu, hc => simp at hu hc; subst hu; subst hc; exact .bool _ _
        | p + 2, hu, hc => simp at hu
  · rename_i hq
    injection hh with hh
    subst hh
    obtain ⟨h1, h2⟩ := mapIx_ok hq
    have hfk := run_findKey (P := P) T G hk hi h1 h2 hl hes w
    have hfa : foundAt es.toList 0 none = none := rfl
    rw [hfa] at hfk
    cases ok
    · exact ⟨_, z, rfl, hzz, .inr ⟨hfk, rfl⟩⟩
    · refine ⟨_, .tuple #[z, .bool false], rfl, .tuple _ _ _ rfl (fun p u c hu hc => ?_), .inr ⟨hfk, rfl⟩⟩
      · match p, hu, hc with
        | 0, hu, hc => simp at hu hc; subst hu; subst hc; exact hzz
        | 1, hu, hc => simp at hu hc; subst hu; subst hc; exact .bool _ _
        | p + 2, hu, hc => simp at hu
  · cases hh

theorem ok_lookup (T : TOk P tt) (G : FOk P tt) (H : Sim F ι lam n e h a w) (hd : ∀ d, dst = some d → d < n) {t kt et : TypeId} {x ix : Operand} {ok : Bool} {ti j : TI} {k : EK} {z : Value} {zz : AV} (hti : tt t = some ti) (hds : ti.desc = .map kt et) (hk : keyOf tt kt = some k)
    (hj : tt et = some j) (hz : j.zero = some z) (hzz : ∀ (F : Nat → Prop) (w : World) (ι : Id → Option Nat), RV F w ι zz z) (ho : o.op = .lookup t x ix ok) (ha : aop e h nid dst (.lookup k zz x ix ok) = some eff) :
    Out P F ι lam n e h a w nid dst o (St.eff ⟨e, h, N⟩ dst eff) := by
  simp only [aop] at ha
  split at ha
  · rename_i i h1 h2
    have hcv := (evA_ok H h1).nilm_inv
    have hi := evA_ok H h2
    cases hf : fits k i
    · simp [hf] at ha
    rw [hf] at ha
    simp only [cond_true, Option.some.injEq] at ha
    subst ha
    have hck := run_checkKey (P := P) T G hk hi hf true w
    have hfn := run_findKey (P := P) (ks := []) (es := #[]) (r := none) T G hk hi hf rfl rfl (by simp) w
    cases ok
    · refine quiet_val H hd (v := z) ?_ (hzz _ _ _)
      simp only [execOp, ho, Instr.lookup, Sem.run_bind, T.desc hti, hds, Result.andThen_ok, hcv, Sem.run_pure, Array.isEmpty_empty, hck, hfn, foundAt, T.zero hj hz, Bool.false_eq_true, if_false]
    · refine quiet_val H hd (v := .tuple #[z, .bool false]) ?_ (.tuple _ _ _ rfl (fun p u c hu hc => ?_))
      · simp only [execOp, ho, Instr.lookup, Sem.run_bind, T.desc hti, hds, Result.andThen_ok, hcv, Sem.run_pure, Array.isEmpty_empty, hck, hfn, foundAt, T.zero hj hz, if_true]
      · match p, hu, hc with
        | 0, hu, hc => simp at hu hc; subst hu; subst hc; exact hzz _ _ _
        | 1, hu, hc => simp at hu hc; subst hu; subst hc; exact .bool _ _
        | p + 2, hu, hc => simp at hu
  · rename_i ks vs i h1 h2
    obtain ⟨b, es, clock, hcv, hF, hb, h3, h4, h5, h6⟩ := (evA_ok H h1).pmap_inv
    have hi := evA_ok H h2
    obtain ⟨y, v, rfl, hyv, hrun⟩ := lookupIn_ok (P := P) (F := F) (ι := ι) T G hk hj hz (hzz _ _ _) hi h3 h4 (fun j x u hx hu => (h5 j x u hx hu).up) (fun j x u hx hu => (h6 j x u hx hu).up) ha
    have hf : fits k i = true := by
      unfold lookupIn at ha
      cases hm : mapIx k i ks with
      | none => simp [hm] at ha
      | some r => exact (mapIx_ok hm).1
    have hg : (getObj b).run P w = .ok (.map es clock) w := by simp [getObj, Sem.run, hb]
    refine quiet_val H hd (v := v) ?_ hyv
    rcases hrun with ⟨q, y', hrun, rfl⟩ | ⟨hrun, rfl⟩
    · simp only [execOp, ho, Instr.lookup, Sem.run_bind, T.desc hti, hds, Result.andThen_ok, hcv, hg, Sem.run_pure, run_checkKey (P := P) T G hk hi hf, hrun]
    · simp only [execOp, ho, Instr.lookup, Sem.run_bind, T.desc hti, hds, Result.andThen_ok, hcv, hg, Sem.run_pure, run_checkKey (P := P) T G hk hi hf, hrun, T.zero hj hz]
  · rename_i o' i h1 h2
    split at ha
    case h_2 => cases ha
    rename_i ks vs born clock hob
    obtain ⟨b, hcv, hb⟩ := (evA_ok H h1).map_inv
    obtain ⟨b', h7, _, es, h8, h3, h4, h9, h5, h6, _⟩ := H.obj o' _ hob
    rw [hb] at h7
    injection h7 with h7
    subst h7
    have hi := evA_ok H h2
    obtain ⟨y, v, rfl, hyv, hrun⟩ := lookupIn_ok (P := P) (F := F) (ι := ι) T G hk hj hz (hzz _ _ _) hi h3 h4 h5 h6 ha
    have hf : fits k i = true := by
      unfold lookupIn at ha
      cases hm : mapIx k i ks with
      | none => simp [hm] at ha
      | some r => exact (mapIx_ok hm).1
    have hg : (getObj b).run P w = .ok (.map es clock) w := by simp [getObj, Sem.run, h8]
    refine quiet_val H hd (v := v) ?_ hyv
    rcases hrun with ⟨q, y', hrun, rfl⟩ | ⟨hrun, rfl⟩
    · simp only [execOp, ho, Instr.lookup, Sem.run_bind, T.desc hti, hds, Result.andThen_ok, hcv, hg, Sem.run_pure, run_checkKey (P := P) T G hk hi hf, hrun]
    · simp only [execOp, ho, Instr.lookup, Sem.run_bind, T.desc hti, hds, Result.andThen_ok, hcv, hg, Sem.run_pure, run_checkKey (P := P) T G hk hi hf, hrun, T.zero hj hz]
  · cases ha

end
end Go.AM

/- AM, part 11: new memory; stores. -/
namespace Go.AM
noncomputable section
set_option linter.unusedVariables false
set_option linter.unusedSimpArgs false

variable {P : Program} {tt : TypeId → Option TI}
variable {F : Nat → Prop} {ι : Id → Option Nat} {lam : Nat → Nat} {n : Nat} {e : Env} {h : Heap} {a : Act} {w : World}
variable {nid : Id} {dst : Option Nat} {o : Oper} {N : Nat} {eff : Eff}

/-- The heap with one block more, and what else the machine counts. -/
structure Pushed (w w' : World) (ob : Obj) : Prop where
  heap : w'.heap = w.heap.push ob
  os : w'.os = w.os
  tape : w'.tape = w.tape
  output : w'.output = w.output

theorem Pushed.alloc (w : World) (ob : Obj) : Pushed w (w.alloc ob) ob := ⟨rfl, rfl, rfl, rfl⟩
theorem Pushed.drew (w : World) (ob : Obj) : Pushed w (w.drew.alloc ob) ob := ⟨rfl, rfl, rfl, rfl⟩

theorem Pushed.old {w w' : World} {ob : Obj} (hp : Pushed w w' ob) {b : Nat} (hb : b < w.heap.size) : w'.heap[b]? = w.heap[b]? := by
  rw [hp.heap, Array.getElem?_push, if_neg (by omega)]
theorem Pushed.new {w w' : World} {ob : Obj} (hp : Pushed w w' ob) : w'.heap[w.heap.size]? = some ob := by
  rw [hp.heap, Array.getElem?_push, if_pos rfl]
theorem Pushed.size {w w' : World} {ob : Obj} (hp : Pushed w w' ob) : w'.heap.size = w.heap.size + 1 := by rw [hp.heap]; simp
theorem Pushed.kept {w w' : World} {ob : Obj} (hp : Pushed w w' ob) (own : Nat → Prop) : Kept own w w' :=
  ⟨by rw [hp.size]; omega, fun b hb _ => hp.old hb, fun b hb => .of_eq (hp.old hb), hp.os, hp.tape, hp.output⟩

theorem Sim.owns_lt (H : Sim F ι lam n e h a w) {b : Nat} (hb : Owns ι lam e h b) : b < w.heap.size := by
  rcases hb with ⟨s, cs, hs, rfl⟩ | ⟨i, o, ho, hi⟩
  · exact (H.box s cs hs).2.1
  · exact H.iot i b hi

/-- ι with one object more. -/
def ext (ι : Id → Option Nat) (nid : Id) (b : Nat) : Id → Option Nat := fun i => if i = nid then some b else ι i
theorem ext_self (ι : Id → Option Nat) (nid : Id) (b : Nat) : ext ι nid b nid = some b := by simp [ext]
theorem ext_ne (ι : Id → Option Nat) {nid i : Id} (b : Nat) (hi : i ≠ nid) : ext ι nid b i = ι i := by simp [ext, hi]
theorem ext_le {ι : Id → Option Nat} {nid : Id} (hn : ι nid = none) (b : Nat) : ∀ i c, ι i = some c → ext ι nid b i = some c := by
  intro i c hi
  by_cases h : i = nid
  · subst h; rw [hn] at hi; cases hi
  · rw [ext_ne ι b h]; exact hi

theorem Sim.heap_none (H : Sim F ι lam n e h a w) (hn : ι nid = none) : h.get nid = none := by
  cases hg : h.get nid with
  | none => rfl
  | some o =>
    obtain ⟨b, hb, _⟩ := H.obj nid o hg
    rw [hn] at hb
    cases hb

/-- The relation behind a new block, which is told by a new number. -/
theorem Sim.push (H : Sim F ι lam n e h a w) (hn : ι nid = none) {w' : World} {ob : Obj} (hp : Pushed w w' ob) : Sim F (ext ι nid w.heap.size) lam n e h a w' := by
  refine H.move (fun _ h => h) (fun b hb => by rw [hp.size]; exact Nat.lt_succ_of_lt (H.fin b hb)) (fun b hb hf => H.notF hf hb) (fun b hb => hp.old (H.fin b hb)) (fun b hb => hp.old (H.owns_lt hb)) (ext_le hn _)
    (fun i b hi => ?_) (fun i b hi => .of_eq (hp.old (H.iot i b hi))) (by rw [hp.size]; omega)
  rw [hp.size]
  by_cases hh : i = nid
  · subst hh; rw [ext_self] at hi; injection hi with hi; omega
  · rw [ext_ne ι _ hh] at hi; exact Nat.lt_succ_of_lt (H.iot i b hi)

theorem rv_push (H : Sim F ι lam n e h a w) (hn : ι nid = none) {w' : World} {ob : Obj} (hp : Pushed w w' ob) {x : AV} {c : Value} (hx : RV F w ι x c) : RV F w' (ext ι nid w.heap.size) x c :=
  hx.mono (fun _ h => h) (fun b hb => hp.old (H.fin b hb)) (ext_le hn _) (fun i b hi => .of_eq (hp.old (H.iot i b hi)))

/-- A new object. -/
theorem new_out (H : Sim F ι lam n e h a w) (hn : ι nid = none) (hd : ∀ d, dst = some d → d < n) {w' : World} {ob : Obj} (hp : Pushed w w' ob) {v : Value} {x : AV} {ao : AObj} {rd wr : List Key} {del : Option Id}
    (hrun : (execOp a.eval o).run P w = .ok (.value v) w') (hro : RO F w' (ext ι nid w.heap.size) ao w.heap.size) (hv : RV F w' (ext ι nid w.heap.size) x v) :
    Out P F ι lam n e h a w nid dst o (St.eff ⟨e, h, N⟩ dst { val := .v x, put := [(nid, ao)], del, rd, wr }) := by
  have H1 := H.push hn hp
  have key : ∀ (h' : Heap), Sim F (ext ι nid w.heap.size) lam n e h' a w' → (∀ i p, h'.get i = some p → h.get i = some p) → Out P F ι lam n e h a w nid dst o ⟨e.putO dst (.v x), h'.put nid ao, N⟩ := by
    intro h' H2 hsub
    have H3 := H2.obj_put (o := ao) (ext_self ι nid w.heap.size) (fun hf => by have := H.fin _ hf; omega) hro (fun j p hj hb => by
        by_cases hh : j = nid
        · exact hh
        · rw [ext_ne ι _ hh] at hb
          have := H.iot j _ hb
          omega) (fun s cs hs heq => by have := (H.box s cs hs).2.1; omega)
    have hown : ∀ (e' : Env), (∀ s cs, e'.get s = some (.box cs) → e.get s = some (.box cs)) → ∀ b, Owns (ext ι nid w.heap.size) lam e' (h'.put nid ao) b → Owns ι lam e h b ∨ w.heap.size ≤ b := by
      rintro e' he b (⟨s, cs, hs, rfl⟩ | ⟨i, p, hi, hb⟩)
      · exact .inl (.inl ⟨s, cs, he s cs hs, rfl⟩)
      · by_cases hh : i = nid
        · subst hh
          rw [ext_self] at hb
          injection hb with hb
          exact .inr (by omega)
        · rw [Heap.get_put, if_neg hh] at hi
          rw [ext_ne ι _ hh] at hb
          exact .inl (.inr ⟨i, p, hsub i p hi, hb⟩)
    cases dst with
    | none => exact ⟨_, v, w', _, lam, hrun, .inl rfl, H3, hp.kept _, ext_le hn _, fun i hi => ext_ne ι _ hi, hown e (fun _ _ h => h)⟩
    | some d => exact ⟨_, v, w', _, lam, hrun, .inl rfl, H3.put (hd d rfl) (by simp) hv, hp.kept _, ext_le hn _, fun i hi => ext_ne ι _ hi, hown _ (fun s cs hs => by
        change (e.put d (.v x)).get s = some (.box cs) at hs
        rw [Env.get_put] at hs
        split at hs
        · simp at hs
        · exact hs)⟩
  cases del with
  | none => exact key h H1 (fun _ _ h => h)
  | some q => exact key (h.del q) (H1.del q) (fun i p hi => by
      rw [Heap.get_del] at hi
      split at hi
      · cases hi
      · exact hi)

/-- A new variable of the function's own. -/
theorem local_out (H : Sim F ι lam n e h a w) {d : Nat} (hd : d < n) (hfree : e.free d = true) {w' : World} {ob : Obj} (hp : Pushed w w' ob) {cs : List AV} {rd wr : List Key}
    (hrun : (execOp a.eval o).run P w = .ok (.value (.pointer (some ⟨w.heap.size, 0, none⟩))) w') (hro : RO F w' ι (.cells cs) w.heap.size) :
    Out P F ι lam n e h a w nid (some d) o (St.eff ⟨e, h, N⟩ (some d) { val := .box cs, rd, wr }) := by
  have H1 := H.world (w' := w') (fun b hb => hp.old hb) (by rw [hp.size]; omega)
  have H2 := H1.newbox hd hfree (cs := cs) (b := w.heap.size) (fun hf => by have := H.fin _ hf; omega) (by rw [hp.size]; omega) hro (fun j p hj hb => by have := H.iot j _ hb; omega) (fun t ds ht heq => by have := (H.box t ds ht).2.1; omega)
  refine ⟨_, _, w', ι, _, hrun, .inl rfl, H2, hp.kept _, fun _ _ h => h, fun _ _ => rfl, ?_⟩
  rintro b (⟨s, ds, hs, rfl⟩ | hb)
  · change (e.put d (.box cs)).get s = some (.box ds) at hs
    by_cases hsd : s = d
    · right; simp [hsd]
    · rw [Env.get_put, if_neg hsd] at hs
      left
      simp only [hsd, if_false]
      exact .inl ⟨s, ds, hs, rfl⟩
  · exact .inl (.inr hb)

/-- A row of cells that has just been made. -/
theorem ro_new {cs : List AV} {arr : Array Value} {ety : TypeId} {w w' : World} {ob : Obj} {ι' : Id → Option Nat} (hp : Pushed w w' ob) (hob : ob = .cells arr ety) (hle : cs.length ≤ arr.size)
    (hr : ∀ (j : Nat) (u : AV) (c : Value), cs[j]? = some u → arr[j]? = some c → RV F w' ι' u c) : RO F w' ι' (.cells cs) w.heap.size :=
  ⟨arr, ety, 0, 0, by rw [hp.new, hob], fun j _ => by omega, hle, hr⟩

theorem ok_alloc (T : TOk P tt) (H : Sim F ι lam n e h a w) (hn : ι nid = none) (hd : ∀ d, dst = some d → d < n) {t : TypeId} {hp : Bool} {ti : TI} {z : Value} {zs : List AV} (hti : tt t = some ti) (hz : ti.zero = some z) (hzs : ofZero z = some zs) (ho : o.op = .alloc t)
    (ha : aop e h nid dst (.alloc hp zs) = some eff) : Out P F ι lam n e h a w nid dst o (St.eff ⟨e, h, N⟩ dst eff) := by
  have hrun : (execOp a.eval o).run P w = .ok (.value (.pointer (some ⟨w.heap.size, 0, none⟩))) (w.alloc (.cells z.cells t)) := by
    simp only [execOp, ho, Instr.alloc, Sem.run_bind, T.zero hti hz, Result.andThen_ok, newVar, newRow, run_newObj_alloc, Sem.run_pure]
  have hpu := Pushed.alloc w (.cells z.cells t)
  simp only [aop] at ha
  cases hp
  · simp only [cond_false] at ha
    split at ha
    · rename_i d
      cases hf : e.free d
      · simp [hf] at ha
      rw [hf] at ha
      simp only [cond_true, Option.some.injEq] at ha
      subst ha
      obtain ⟨h1, h2⟩ := ofZero_ok (F := F) (w := w.alloc (.cells z.cells t)) (ι := ι) hzs
      exact local_out H (hd d rfl) hf hpu hrun (ro_new hpu rfl (by omega) h2)
    · cases ha
  · simp only [cond_true, Option.some.injEq] at ha
    subst ha
    obtain ⟨h1, h2⟩ := ofZero_ok (F := F) (w := w.alloc (.cells z.cells t)) (ι := ext ι nid w.heap.size) hzs
    exact new_out H hn hd hpu hrun (ro_new hpu rfl (by omega) h2) (.ptr _ _ _ _ (ext_self _ _ _))

theorem ok_box (H : Sim F ι lam n e h a w) (hn : ι nid = none) (hd : ∀ d, dst = some d → d < n) {t : TypeId} {hp : Bool} {x : Operand} (ho : o.op = .box t x)
    (ha : aop e h nid dst (.box hp x) = some eff) : Out P F ι lam n e h a w nid dst o (St.eff ⟨e, h, N⟩ dst eff) := by
  have hrun : (execOp a.eval o).run P w = .ok (.value (.pointer (some ⟨w.heap.size, 0, none⟩))) (w.alloc (.cells (a.eval x).cells t)) := by
    simp only [execOp, ho, Instr.box, Sem.run_bind, Result.andThen_ok, newVar, newRow, run_newObj_alloc, Sem.run_pure]
  have hpu := Pushed.alloc w (.cells (a.eval x).cells t)
  simp only [aop] at ha
  split at ha
  case h_2 => cases ha
  rename_i r hr
  obtain ⟨h1, h2⟩ := cells_of (evA_ok H hr) (evA_notjunk hr)
  cases hp
  · simp only [cond_false] at ha
    split at ha
    · rename_i d
      cases hf : e.free d
      · simp [hf] at ha
      rw [hf] at ha
      simp only [cond_true, Option.some.injEq] at ha
      subst ha
      refine local_out H (hd d rfl) hf hpu hrun (ro_new hpu rfl (by omega) (fun j u c hu hc => ?_))
      exact (h2 j u c hu hc).mono (fun _ h => h) (fun b hb => hpu.old (H.fin b hb)) (fun _ _ h => h) (fun i b hi => .of_eq (hpu.old (H.iot i b hi)))
    · cases ha
  · simp only [cond_true, Option.some.injEq] at ha
    subst ha
    exact new_out H hn hd hpu hrun (ro_new hpu rfl (by omega) (fun j u c hu hc => rv_push H hn hpu (h2 j u c hu hc))) (.ptr _ _ _ _ (ext_self _ _ _))

theorem rep_get {z : List AV} (hz : 0 < z.length) : ∀ (m j : Nat), j < m * z.length → (rep m z)[j]? = z[j % z.length]?
  | 0, j, h => by simp at h
  | m + 1, j, hj => by
    simp only [rep]
    by_cases h1 : j < z.length
    · rw [List.getElem?_append_left h1, Nat.mod_eq_of_lt h1]
    · have hj' : j - z.length < m * z.length := by rw [Nat.add_mul, Nat.one_mul] at hj; omega
      rw [List.getElem?_append_right (by omega), rep_get hz m (j - z.length) hj']
      congr 1
      exact (Nat.mod_eq_sub_mod (by omega)).symm
theorem rep_length (z : List AV) : ∀ m, (rep m z).length = m * z.length
  | 0 => by simp [rep]
  | m + 1 => by simp [rep, rep_length z m, Nat.add_mul, Nat.add_comm]

/-- Zero elements. -/
theorem rep_rvs {z : List AV} {zv : Array Value} (hz : RVs F w ι z zv) (m : Nat) : RVs F w ι (rep m z) ((Array.range (m * z.length)).map (zv[· % zv.size]!)) := by
  refine ⟨by simp [rep_length], fun j u c hu hc => ?_⟩
  have hj : j < m * z.length := by rw [← rep_length]; exact (List.getElem?_eq_some_iff.1 hu).1
  have hpos : 0 < z.length := Nat.pos_of_ne_zero (by intro h0; rw [h0] at hj; simp at hj)
  rw [rep_get hpos m j hj] at hu
  have hlt : j % zv.size < zv.size := Nat.mod_lt _ (by rw [hz.1]; exact hpos)
  simp only [Array.getElem?_map, Array.getElem?_range, hj, if_true, Option.map_some, Option.some.injEq] at hc
  rw [getElem!_pos zv _ hlt] at hc
  refine hz.2 (j % z.length) u c hu ?_
  rw [← hz.1, ← hc]
  exact Array.getElem?_eq_getElem hlt

theorem range0 (f : Nat → Value) : (Array.range 0).map f = #[] := by simp

theorem maxLen_small {m : Nat} (h : m ≤ 16777216) : m ≤ maxLen := by simp only [maxLen]; omega

theorem ok_bslice (T : TOk P tt) (H : Sim F ι lam n e h a w) (hn : ι nid = none) (hd : ∀ d, dst = some d → d < n) {t el : TypeId} {len : Nat} {parts : Array (Nat × Operand)} {ti j : TI} {z : Value} {zs : List AV} (hti : tt t = some ti) (hds : ti.desc = .slice el) (hj : tt el = some j)
    (hz : j.zero = some z) (hzs : ofZero z = some zs) (hzl : zs.length = j.size) (hsm : len * j.size ≤ 16777216) (hpos : 1 ≤ j.size) (ho : o.op = .buildSlice t len parts) (ha : aop e h nid dst (.bslice zs len j.size parts.toList) = some eff) :
    Out P F ι lam n e h a w nid dst o (St.eff ⟨e, h, N⟩ dst eff) := by
  simp only [aop] at ha
  split at ha
  case h_2 => cases ha
  rename_i l hl
  split at ha
  case h_2 => cases ha
  rename_i cs hcs
  injection ha with ha
  subst ha
  obtain ⟨h1, h2⟩ := evElems_ok H hl
  have hz0 := ofZero_ok (F := F) (w := w) (ι := ι) hzs
  have hzsz : z.cells.size = j.size := by rw [hz0.1, hzl]
  have hrep := rep_rvs hz0 len
  rw [hzl] at hrep
  obtain ⟨arr, h5, h6⟩ := run_fill (F := F) (w := w) (ι := ι) (place := fun i => some (i * j.size, j.size)) (ps := (parts.map fun p => (p.1, a.eval p.2)).toList) hcs
    (by simp [h1]) (fun k x p hx hp => by
      simp only [Array.toList_map, List.getElem?_map] at hp
      cases hq : parts.toList[k]? with
      | none => rw [hq] at hp; simp at hp
      | some q =>
        rw [hq] at hp
        simp only [Option.map_some, Option.some.injEq] at hp
        subst hp
        obtain ⟨h12, h13, h14⟩ := h2 k x q hx hq
        exact ⟨by rw [h12, h13], h14⟩) hrep
  have hsz : arr.size = len * j.size := by
    have := h6.1
    rw [this]
    have key : ∀ {l : List (Nat × List AV)} {c c' : List AV}, fill c l = some c' → c'.length = c.length := by
      intro l
      induction l with
      | nil => intro c c' hf; simp only [fill, Option.some.injEq] at hf; rw [hf]
      | cons y l ih =>
        intro c c' hf
        obtain ⟨off, xs⟩ := y
        simp only [fill] at hf
        split at hf
        · rename_i c1 hu
          rw [ih hf]
          simp only [upd] at hu
          cases hb : Nat.ble (off + xs.length) c.length
          · simp [hb] at hu
          · rw [hb] at hu
            simp only [cond_true, Option.some.injEq] at hu
            have := Nat.le_of_ble_eq_true hb
            subst hu
            simp
            omega
        · cases hf
    rw [key hcs, rep_length, hzl]
  have hpu := Pushed.alloc w (.cells arr el)
  have hlen : len ≤ maxLen := maxLen_small (Nat.le_trans (Nat.le_mul_of_pos_right len hpos) hsm)
  refine new_out H hn hd hpu (v := .slice (some ⟨w.heap.size, 0, none⟩) len len) ?_ (ro_new hpu rfl (Nat.le_of_eq h6.1.symm) (fun q u c hu hc => rv_push H hn hpu (h6.2 q u c hu hc)))
    (.slice _ _ _ _ _ _ _ _ arr el (0, 0) (ext_self _ _ _) hpu.new (by omega) (Nat.le_refl _) hlen (fun _ => rfl))
  have hns : ¬ len * j.size > 2 ^ 24 := by omega
  have hns0 : ¬ (0 > 2 ^ 24) := by omega
  by_cases h0 : len * j.size = 0
  · have hr0 : (Array.range (len * j.size)).map (z.cells[· % z.cells.size]!) = (#[] : Array Value) := by rw [h0]; simp
    rw [hr0] at h5
    simp only [execOp, ho, Instr.buildSlice, Sem.run_bind, T.desc hti, hds, T.size hj, Result.andThen_ok, hns, hns0, if_false, h0, if_true, Sem.run_pure, range0, h5, newRow, run_newObj_alloc]
  · simp only [execOp, ho, Instr.buildSlice, Sem.run_bind, T.desc hti, hds, T.size hj, T.zero hj hz, Result.andThen_ok, hns, if_false, h0, Sem.run_pure, h5, newRow, run_newObj_alloc]

theorem ok_mkmap (H : Sim F ι lam n e h a w) (hn : ι nid = none) (hd : ∀ d, dst = some d → d < n) {t : TypeId} (ho : o.op = .makeMap t none) (ha : aop e h nid dst .mkmap = some eff) :
    Out P F ι lam n e h a w nid dst o (St.eff ⟨e, h, N⟩ dst eff) := by
  simp only [aop, Option.some.injEq] at ha
  subst ha
  have hpu := Pushed.alloc w (.map #[] 0)
  refine new_out H hn hd hpu (v := .map (some w.heap.size)) ?_ ⟨#[], hpu.new, rfl, rfl, rfl, by simp, by simp, by simp⟩ (.map _ _ _ (ext_self _ _ _))
  simp only [execOp, ho, Option.map_none, Instr.makeMap, Sem.run_bind, run_newObj_alloc, Result.andThen_ok, Sem.run_pure]

theorem wrap64_id {m : Int} (h0 : 0 ≤ m) (h1 : m ≤ 140737488355328) : IntKind.i64.wrap m = m := IntWalk.i64_in _ (by omega)

theorem ok_mkslice (T : TOk P tt) (H : Sim F ι lam n e h a w) (hn : ι nid = none) (hd : ∀ d, dst = some d → d < n) {t el : TypeId} {x y : Operand} {ti j : TI} {z : Value} {zs : List AV} (hti : tt t = some ti) (hds : ti.desc = .slice el) (hj : tt el = some j)
    (hz : j.zero = some z) (hzs : ofZero z = some zs) (hzl : zs.length = j.size) (hb1 : 1 ≤ j.bytes) (ho : o.op = .makeSlice t x y) (ha : aop e h nid dst (.mkslice zs j.bytes x y) = some eff) :
    Out P F ι lam n e h a w nid dst o (St.eff ⟨e, h, N⟩ dst eff) := by
  simp only [aop] at ha
  split at ha
  case h_2 => cases ha
  rename_i l c h1 h2
  cases hb : (decide (0 ≤ l) && decide (l ≤ c) && decide (c * (j.bytes : Int) ≤ 140737488355328))
  · simp [hb] at ha
  rw [hb] at ha
  simp only [cond_true, Option.some.injEq] at ha
  subst ha
  simp only [Bool.and_eq_true, decide_eq_true_eq] at hb
  obtain ⟨⟨h3, h4⟩, h5⟩ := hb
  have hcl : a.eval x = .int .i64 l := (evA_ok H h1).int_inv
  have hcc : a.eval y = .int .i64 c := (evA_ok H h2).int_inv
  have hc0 : 0 ≤ c := by omega
  have hbb : (1 : Int) ≤ (j.bytes : Int) := by omega
  have hcle : c ≤ c * (j.bytes : Int) := by
    have := Int.mul_le_mul_of_nonneg_left hbb hc0
    omega
  have hwl : IntKind.i64.wrap l = l := wrap64_id h3 (by omega)
  have hwc : IntKind.i64.wrap c = c := wrap64_id hc0 (by omega)
  obtain ⟨f, hf1, hf2, hf3, hf4⟩ := T.info el j hj
  have hz0 := ofZero_ok (F := F) (w := w) (ι := ι) hzs
  have hzsz : z.cells.size = j.size := by rw [hz0.1, hzl]
  have hpu := Pushed.alloc w (.cells ((Array.range (c.toNat * j.size)).map (z.cells[· % z.cells.size]!)) el)
  have hle : l.toNat * j.size ≤ c.toNat * j.size := Nat.mul_le_mul_right _ (by omega)
  have hrep := rep_rvs hz0 c.toNat
  rw [hzl] at hrep
  refine new_out H hn hd hpu (v := .slice (some ⟨w.heap.size, 0, none⟩) l.toNat c.toNat) ?_ (ro_new hpu rfl (by simp [rep_length, hzl]; omega) (fun q u v hu hv => ?_))
    (.slice _ _ _ _ _ _ _ _ _ el (0, 0) (ext_self _ _ _) hpu.new (by simp [hzl]) (by omega) (by simp only [maxLen]; omega) (fun hlc => by simp at hlc; omega))
  · have hfb : (f.bytes : Int) * c ≤ 281474976710656 := by rw [hf3, Int.mul_comm]; omega
    have hr := run_make (P := P) w t el f z (by rw [← hds]; exact T.und t ti hti) hf1 (by rw [hf4, hz]) .i64 .i64 l c h3 h4 hfb (by omega)
    simp only [madeCells, hf2] at hr
    simp only [execOp, ho, hcl, hcc, Sem.run_bind, hr, Result.andThen_ok, Sem.run_pure]
  · refine rv_push H hn hpu (hrep.2 q u v ?_ hv)
    have hq : q < l.toNat * j.size := by
      have := (List.getElem?_eq_some_iff.1 hu).1
      rwa [rep_length, hzl] at this
    have hp0 : 0 < zs.length := by
      rw [hzl]
      exact Nat.pos_of_ne_zero (by intro h0; rw [h0] at hq; simp at hq)
    rw [rep_get hp0 _ _ (by rw [hzl]; exact hq)] at hu
    rw [rep_get hp0 _ _ (by rw [hzl]; omega)]
    exact hu

end
end Go.AM

/- AM, part 12: stores, append. -/
namespace Go.AM
noncomputable section
set_option linter.unusedVariables false
set_option linter.unusedSimpArgs false

variable {P : Program} {tt : TypeId → Option TI}
variable {F : Nat → Prop} {ι : Id → Option Nat} {lam : Nat → Nat} {n : Nat} {e : Env} {h : Heap} {a : Act} {w : World}
variable {nid : Id} {dst : Option Nat} {o : Oper} {N : Nat} {eff : Eff}

theorem one_cell {x : AV} {c : Value} (h1 : x.one = true) (hx : RV F w ι x c) : c.oneCell' = true := by
  cases hx <;> first | rfl | (simp [AV.one] at h1)
theorem ones_get : ∀ {l : List AV}, ones l = true → ∀ (j : Nat) (u : AV), l[j]? = some u → u.one = true
  | [], _, j, u, hu => by simp at hu
  | x :: l, h1, j, u, hu => by
    simp only [ones, Bool.and_eq_true] at h1
    cases j with
    | zero => simp only [List.getElem?_cons_zero, Option.some.injEq] at hu; subst hu; exact h1.1
    | succ j => exact ones_get h1.2 j u (by simpa using hu)
theorem ones_cells {l : List AV} {vs : List Value} (h1 : ones l = true) (hl : vs.length = l.length) (hr : ∀ (j : Nat) (u : AV) (c : Value), l[j]? = some u → vs[j]? = some c → RV F w ι u c) : ∀ v ∈ vs, v.oneCell' = true := by
  intro v hv
  obtain ⟨j, hj, rfl⟩ := List.getElem_of_mem hv
  have hjl : j < l.length := by omega
  exact one_cell (ones_get h1 j _ (List.getElem?_eq_getElem hjl)) (hr j _ _ (List.getElem?_eq_getElem hjl) (List.getElem?_eq_getElem hj))

/-- Cells are written one behind the other. -/
theorem run_storeRow {b off : Nat} {ety : TypeId} {lo hi : Nat} : ∀ (vs : List Value) (i : Nat) (arr : Array Value) (w : World), w.heap[b]? = some (.cells arr ety (lo, hi)) → (∀ j, j < arr.size → ¬ (lo ≤ j ∧ j < hi)) → off + i + vs.length ≤ arr.size → (∀ v ∈ vs, v.oneCell' = true) →
    (storeCells ⟨b, off, none⟩ vs i).run P w = .ok () (w.setRow b (setFrom arr (off + i) vs))
  | [], i, arr, w, hb, _, _, _ => by
    simp only [storeCells, setFrom]
    rw [setRow_self w b arr ety (lo, hi) hb]
    rfl
  | v :: vs, i, arr, w, hb, hfz, hle, h1 => by
    simp only [List.length_cons] at hle
    have hlt : off + i < arr.size := by omega
    have hcell : w.cell? ⟨b, off + i, none⟩ = some arr[off + i] := by rw [cells_at hb]; exact Array.getElem?_eq_getElem hlt
    have hfro : w.frozen? ⟨b, off + i, none⟩ = false := by
      have := hfz _ hlt
      simp only [World.frozen?, hb, Bool.and_eq_false_iff, decide_eq_false_iff_not]
      omega
    have hst : (store ((⟨b, off, none⟩ : Addr).add i) v).run P w = .ok () (w.setRow b (arr.setIfInBounds (off + i) v)) := by
      rw [add_lit', run_store P w _ v _ (h1 v (by simp)), hcell]
      simp [hfro, setCell_eq_setRow w b (off + i) arr ety (lo, hi) v hb]
    have ih := run_storeRow (off := off) vs (i + 1) (arr.setIfInBounds (off + i) v) (w.setRow b (arr.setIfInBounds (off + i) v)) (setRow_heap w b arr _ ety (lo, hi) hb) (by simpa using hfz) (by simp; omega) (fun x hx => h1 x (by simp [hx]))
    simp only [storeCells, Sem.run_bind, hst, Result.andThen_ok, ih, setRow_setRow, setFrom, Nat.add_assoc]

theorem setRow_kept {own : Nat → Prop} {b : Nat} {arr arr' : Array Value} {ety : TypeId} {fz : Nat × Nat} (hb : w.heap[b]? = some (.cells arr ety fz)) (hs : arr'.size = arr.size) (ho : own b) : Kept own w (w.setRow b arr') := by
  refine ⟨by simp [World.setRow], fun c hc hn => setRow_other w b c arr' (fun hcb => hn (hcb ▸ ho)), fun c hc => ?_, rfl, rfl, rfl⟩
  by_cases hcb : c = b
  · subst hcb
    intro x y z hx
    rw [hb] at hx
    injection hx with hx
    injection hx with h1 h2 h3
    subst h1
    exact ⟨arr', ety, fz, setRow_heap w c arr arr' ety fz hb, hs⟩
  · exact .of_eq (setRow_other w b c arr' hcb)

/-- An operation that hands nothing back. -/
theorem skip_out {e' : Env} {h' : Heap} (hrun : ∃ w', (execOp a.eval o).run P w = .ok .skip w' ∧ Sim F ι lam n e' h' a w' ∧ Kept (Owns ι lam e h) w w') (hd : ∀ d, dst = some d → d < n) (hown : ∀ b, Owns ι lam e' h' b → Owns ι lam e h b) :
    Out P F ι lam n e h a w nid dst o ⟨e'.putO dst (.v (.tuple [])), h', N⟩ := by
  obtain ⟨w', h1, h2, h3⟩ := hrun
  cases dst with
  | none => exact ⟨_, undef, w', ι, lam, h1, .inr ⟨rfl, rfl⟩, h2, h3, fun _ _ h => h, fun _ _ => rfl, fun b hb => .inl (hown b hb)⟩
  | some d => exact ⟨_, undef, w', ι, lam, h1, .inr ⟨rfl, rfl⟩, h2.put (sv := .v (.tuple [])) (hd d rfl) (by simp) (RV.tuple _ _ _ rfl (by simp)), h3, fun _ _ h => h, fun _ _ => rfl, fun b hb => .inl (hown b (Owns.put (by simp) hb))⟩

theorem Env.put_put (e : Env) (s : Nat) (x y : SV) (t : Nat) : ((e.put s x).put s y).get t = (e.put s y).get t := by
  simp only [Env.get_put]
  split <;> rfl
theorem Heap.del_put (h : Heap) (i : Id) (x : AObj) (j : Id) : ((h.del i).put i x).get j = (h.put i x).get j := by
  simp only [Heap.get_put, Heap.get_del]
  split <;> rfl

/-- A block that somebody owns is written; all but its owner see nothing of it. -/
theorem Sim.write (H : Sim F ι lam n e h a w) {b : Nat} {arr arr' : Array Value} {ety : TypeId} {fz : Nat × Nat} (hb : w.heap[b]? = some (.cells arr ety fz)) (hs : arr'.size = arr.size) (hF : ¬ F b) (hno : ¬ Owns ι lam e h b) : Sim F ι lam n e h a (w.setRow b arr') := by
  have hk := setRow_kept (own := fun c => c = b) hb hs rfl
  have hne : ∀ c, Owns ι lam e h c → c ≠ b := fun c hc hcb => hno (hcb ▸ hc)
  exact H.move (fun _ h => h) (fun c hc => Nat.lt_of_lt_of_le (H.fin c hc) hk.size) (fun c hc hf => H.notF hf hc) (fun c hc => hk.same c (H.fin c hc) (fun hcb => hF (hcb ▸ hc))) (fun c hc => hk.same c (H.owns_lt hc) (hne c hc)) (fun _ _ h => h)
    (fun i c hi => Nat.lt_of_lt_of_le (H.iot i c hi) hk.size) (fun i c hi => hk.shape c (H.iot i c hi)) hk.size

theorem rv_write (H : Sim F ι lam n e h a w) {b : Nat} {arr arr' : Array Value} {ety : TypeId} {fz : Nat × Nat} (hb : w.heap[b]? = some (.cells arr ety fz)) (hs : arr'.size = arr.size) (hF : ¬ F b) {x : AV} {c : Value} (hx : RV F w ι x c) : RV F (w.setRow b arr') ι x c := by
  have hk := setRow_kept (own := fun c => c = b) hb hs rfl
  exact hx.mono (fun _ h => h) (fun c hc => hk.same c (H.fin c hc) (fun hcb => hF (hcb ▸ hc))) (fun _ _ h => h) (fun i c hi => hk.shape c (H.iot i c hi))

theorem ok_store (T : TOk P tt) (H : Sim F ι lam n e h a w) (hd : ∀ d, dst = some d → d < n) {t : TypeId} {x y : Operand} {ti : TI} (hti : tt t = some ti) (ho : o.op = .store t x y) (ha : aop e h nid dst (.store ti.size x y) = some eff) :
    Out P F ι lam n e h a w nid dst o (St.eff ⟨e, h, N⟩ dst eff) := by
  simp only [aop] at ha
  split at ha
  case h_2 => cases ha
  rename_i p r hp hr
  cases hbb : (!((cellsOf r).length == ti.size) || !(ones (cellsOf r)))
  case true => simp [hbb] at ha
  rw [hbb] at ha
  simp only [cond_false] at ha
  simp only [Bool.or_eq_false_iff, Bool.not_eq_false', beq_iff_eq] at hbb
  obtain ⟨hlen, hone⟩ := hbb
  have hcs := cells_of (evA_ok H hr) (evA_notjunk hr)
  obtain ⟨hpb, hpv⟩ := evS_ok H hp
  have h1 : ∀ v ∈ (a.eval y).cells.toList, v.oneCell' = true := ones_cells hone (by rw [Array.length_toList]; exact hcs.1) (fun j u c hu hc => hcs.2 j u c hu (by simpa using hc))
  have hrun : ∀ {b off : Nat} {arr : Array Value} {ety : TypeId} {lo hi : Nat}, a.eval x = .pointer (some ⟨b, off, none⟩) → w.heap[b]? = some (.cells arr ety (lo, hi)) → (∀ j, j < arr.size → ¬ (lo ≤ j ∧ j < hi)) → off + (a.eval y).cells.size ≤ arr.size →
      (execOp a.eval o).run P w = .ok .skip (w.setRow b (setFrom arr off (a.eval y).cells.toList)) := by
    intro b off arr ety lo hi hx hb hfz hle
    have hst := run_storeRow (P := P) (off := off) (a.eval y).cells.toList 0 arr w hb hfz (by simpa using hle) h1
    have hsz : ¬ ((a.eval y).cells.size ≠ ti.size) := by rw [hcs.1, hlen]; simp
    simp only [execOp, ho, hx, Instr.storeAt, Instr.sureAddr, Sem.run_bind, Sem.run_pure, Result.andThen_ok, storeVar, T.size hti, Sem.run_ite, hsz, if_false, hst, Nat.add_zero]
  split at ha
  · rename_i s off
    split at ha
    case h_2 => cases ha
    rename_i cs hs
    split at ha
    case h_2 => cases ha
    rename_i cs' hu
    injection ha with ha
    subst ha
    obtain ⟨hF, hlt, arr, ety, lo, hi, hb, hfz, hle, hrv⟩ := H.box s cs hs
    obtain ⟨h2, h3, h4⟩ := upd_ok hu hle hcs hrv
    have hx : a.eval x = .pointer (some ⟨lam s, off, none⟩) := hpv 0
    have hsf : (setFrom arr off (a.eval y).cells.toList).size = arr.size := setFrom_size _ _ _
    have H1 := H.unbox hs
    have hno : ¬ Owns ι lam (e.put s (.lptr s 0)) h (lam s) := by
      rintro (⟨t, ds, ht, hl⟩ | ⟨i, q, hi, hl⟩)
      · rw [Env.get_put] at ht
        split at ht
        · simp at ht
        · rename_i hne
          exact hne (H.ll t s ds cs ht hs hl)
      · exact H.lh s cs i q hs hi hl
    have H2 := H1.write (arr' := setFrom arr off (a.eval y).cells.toList) hb hsf hF hno
    have H3 := H2.rebox (s := s) (cs := cs') (by rw [Env.get_put, if_pos rfl]) hF (by simpa [World.setRow] using hlt)
      ⟨_, ety, lo, hi, setRow_heap w (lam s) arr _ ety (lo, hi) hb, by rw [hsf]; exact hfz, by rw [hsf, h2]; exact hle, fun j u c hu hc => rv_write H hb hsf hF (h4 j u c hu hc)⟩
      (fun j q hj hl => H.lh s cs j q hs hj hl) (fun t ds ht hl => hno (.inl ⟨t, ds, ht, hl⟩))
    have H4 := H3.congr (e' := e.put s (.box cs')) (h' := h) (fun t => (Env.put_put e s _ _ t).symm) (fun _ => rfl)
    refine skip_out (e' := e.put s (.box cs')) (h' := h) ⟨_, hrun hx hb hfz (by omega), H4, setRow_kept hb hsf (.inl ⟨s, cs, hs, rfl⟩)⟩ hd ?_
    rintro b (⟨t, ds, ht, hl⟩ | hb)
    · rw [Env.get_put] at ht
      split at ht
      · rename_i hts
        subst hts
        exact .inl ⟨t, cs, hs, hl⟩
      · exact .inl ⟨t, ds, ht, hl⟩
    · exact .inr hb
  · rename_i ob off
    split at ha
    case h_2 => cases ha
    rename_i cs hs
    split at ha
    case h_2 => cases ha
    rename_i cs' hu
    injection ha with ha
    subst ha
    obtain ⟨b, hib, hF, arr, ety, lo, hi, hb, hfz, hle, hrv⟩ := H.obj ob _ hs
    obtain ⟨h2, h3, h4⟩ := upd_ok hu hle hcs hrv
    obtain ⟨b', hx, hb'⟩ := (hpv 0).ptr_inv
    rw [hib] at hb'
    injection hb' with hb'
    subst hb'
    have hsf : (setFrom arr off (a.eval y).cells.toList).size = arr.size := setFrom_size _ _ _
    have H1 := H.del ob
    have hno : ¬ Owns ι lam e (h.del ob) b := by
      rintro (⟨t, ds, ht, hl⟩ | ⟨i, q, hi, hl⟩)
      · exact H.lh t ds ob _ ht hs (by rw [hib, hl])
      · rw [Heap.get_del] at hi
        split at hi
        · cases hi
        · rename_i hne
          exact hne (H.hh i ob q _ b hi hs hl hib)
    have H2 := H1.write (arr' := setFrom arr off (a.eval y).cells.toList) hb hsf hF hno
    have H3 := H2.obj_put (i := ob) (o := .cells cs') hib hF
      ⟨_, ety, lo, hi, setRow_heap w b arr _ ety (lo, hi) hb, by rw [hsf]; exact hfz, by rw [hsf, h2]; exact hle, fun j u c hu hc => rv_write H hb hsf hF (h4 j u c hu hc)⟩
      (fun j q hj hl => absurd (.inr ⟨j, q, hj, hl⟩) hno) (fun t ds ht hl => hno (.inl ⟨t, ds, ht, hl⟩))
    have H4 := H3.congr (e' := e) (h' := h.put ob (.cells cs')) (fun _ => rfl) (fun j => (Heap.del_put h ob _ j).symm)
    refine skip_out (e' := e) (h' := h.put ob (.cells cs')) ⟨_, hrun hx hb hfz (by omega), H4, setRow_kept hb hsf (.inr ⟨ob, _, hs, hib⟩)⟩ hd ?_
    rintro c (hc | ⟨i, q, hi, hl⟩)
    · exact .inl hc
    · rw [Heap.get_put] at hi
      split at hi
      · rename_i hio
        subst hio
        exact .inr ⟨i, _, hs, hl⟩
      · exact .inr ⟨i, q, hi, hl⟩
  · cases ha

/-! ### a map is written -/
theorem setObj_run {b : Nat} {es es' : Array MapEntry} {c c' : Nat} (hb : w.heap[b]? = some (.map es c)) : (setObj b (.map es' c')).run P w = .ok () { w with heap := w.heap.setIfInBounds b (.map es' c') } := by
  simp only [setObj, Sem.run, hb]

theorem ok_mapup (T : TOk P tt) (G : FOk P tt) (H : Sim F ι lam n e h a w) (hd : ∀ d, dst = some d → d < n) {t kt et : TypeId} {m ix x : Operand} {ti : TI} {k : EK} (hti : tt t = some ti) (hds : ti.desc = .map kt et) (hk : keyOf tt kt = some k)
    (ho : o.op = .mapUpdate t m ix x ∨ o.op = .insert t m ix x) (ha : aop e h nid dst (.mapup k m ix x) = some eff) : Out P F ι lam n e h a w nid dst o (St.eff ⟨e, h, N⟩ dst eff) := by
  simp only [aop] at ha
  split at ha
  case h_2 => cases ha
  rename_i ob i v hm hi hv
  split at ha
  case h_2 => cases ha
  rename_i ks vs born clock hob
  obtain ⟨b, hmv, hb⟩ := (evA_ok H hm).map_inv
  obtain ⟨b', hb', hF, es, hhb, hl1, hl2, hl3, hrk, hrv, hrn⟩ := H.obj ob _ hob
  rw [hb] at hb'
  injection hb' with hb'
  subst hb'
  have hiv := evA_ok H hi
  have hvv := evA_ok H hv
  have hlt : b < w.heap.size := H.iot ob b hb
  have H1 := H.del ob
  have hno : ¬ Owns ι lam e (h.del ob) b := by
    rintro (⟨t, ds, ht, hl⟩ | ⟨j, q, hj, hl⟩)
    · exact H.lh t ds ob _ ht hob (by rw [hb, hl])
    · rw [Heap.get_del] at hj
      split at hj
      · cases hj
      · rename_i hne
        exact hne (H.hh j ob q _ b hj hob hl hb)
  -- whatever is written there
  have fin : ∀ {ks' vs' : List AV} {born' : List Nat} {clock' : Nat} {es' : Array MapEntry}, (Instr.mapUpdate t (a.eval m) (a.eval ix) (a.eval x)).run P w = .ok () { w with heap := w.heap.setIfInBounds b (.map es' clock') } →
      es'.size = ks'.length → vs'.length = ks'.length → born'.length = ks'.length → (∀ (j : Nat) (y : MapEntry) (u : AV), es'[j]? = some y → ks'[j]? = some u → RV F w ι u y.key) → (∀ (j : Nat) (y : MapEntry) (u : AV), es'[j]? = some y → vs'[j]? = some u → RV F w ι u y.val) →
      (∀ (j : Nat) (y : MapEntry) (q : Nat), es'[j]? = some y → born'[j]? = some q → y.born = q) →
      Out P F ι lam n e h a w nid dst o ⟨e.putO dst (.v (.tuple [])), h.put ob (.map ks' vs' born' clock'), N⟩ := by
    intro ks' vs' born' clock' es' hrun g1 g2 g3 g4 g5 g6
    have hsame : ∀ c, c ≠ b → (w.heap.setIfInBounds b (.map es' clock'))[c]? = w.heap[c]? := fun c hc => by rw [Array.getElem?_setIfInBounds, if_neg (fun h => hc h.symm)]
    have hnew : (w.heap.setIfInBounds b (.map es' clock'))[b]? = some (.map es' clock') := by rw [Array.getElem?_setIfInBounds, if_pos rfl, if_pos hlt]
    have hshape : ∀ c, SameShape w { w with heap := w.heap.setIfInBounds b (.map es' clock') } c := by
      intro c
      by_cases hc : c = b
      · subst hc
        intro p q r hp
        rw [hhb] at hp
        cases hp
      · exact .of_eq (hsame c hc)
    have hkept : Kept (Owns ι lam e h) w { w with heap := w.heap.setIfInBounds b (.map es' clock') } :=
      ⟨by simp, fun c _ hn => hsame c (fun hc => hn (hc ▸ .inr ⟨ob, _, hob, hb⟩)), fun c _ => hshape c, rfl, rfl, rfl⟩
    have hup : ∀ {y : AV} {c : Value}, RV F w ι y c → RV F { w with heap := w.heap.setIfInBounds b (.map es' clock') } ι y c := fun hy => hy.mono (fun _ h => h) (fun c hc => hsame c (fun hcb => hF (hcb ▸ hc))) (fun _ _ h => h) (fun _ c _ => hshape c)
    have H2 : Sim F ι lam n e (h.del ob) a { w with heap := w.heap.setIfInBounds b (.map es' clock') } :=
      H1.move (fun _ h => h) (fun c hc => by simpa using H.fin c hc) (fun c hc hf => H1.notF hf hc) (fun c hc => hsame c (fun hcb => hF (hcb ▸ hc))) (fun c hc => hsame c (fun hcb => hno (hcb ▸ hc))) (fun _ _ h => h)
        (fun j c hj => by simpa using H.iot j c hj) (fun _ c _ => hshape c) (by simp)
    have H3 := H2.obj_put (i := ob) (o := .map ks' vs' born' clock') hb hF ⟨es', hnew, g1, g2, g3, fun j y u hy hu => hup (g4 j y u hy hu), fun j y u hy hu => hup (g5 j y u hy hu), g6⟩
      (fun j q hj hl => absurd (.inr ⟨j, q, hj, hl⟩) hno) (fun t ds ht hl => hno (.inl ⟨t, ds, ht, hl⟩))
    have H4 := H3.congr (e' := e) (h' := h.put ob (.map ks' vs' born' clock')) (fun _ => rfl) (fun j => (Heap.del_put h ob _ j).symm)
    refine skip_out (e' := e) (h' := h.put ob (.map ks' vs' born' clock')) ⟨_, ?_, H4, hkept⟩ hd ?_
    · rcases ho with ho | ho <;> simp only [execOp, ho, Sem.run_bind, hrun, Result.andThen_ok, Sem.run_pure]
    · rintro c (hc | ⟨j, q, hj, hl⟩)
      · exact .inl hc
      · rw [Heap.get_put] at hj
        split at hj
        · rename_i hio
          subst hio
          exact .inr ⟨j, _, hob, hl⟩
        · exact .inr ⟨j, q, hj, hl⟩
  have hg : (getObj b).run P w = .ok (.map es clock) w := by simp [getObj, Sem.run, hhb]
  split at ha
  · rename_i q hq
    injection ha with ha
    subst ha
    obtain ⟨hf, hfk⟩ := mapIx_ok hq
    obtain ⟨_, hq1, hq2⟩ := findK_range hfk q rfl
    simp only [Nat.sub_zero, Nat.zero_add] at hq1 hq2
    have hqs : q < es.size := by omega
    have hkey := run_findKey (P := P) T G hk hiv hf hfk hl1 hrk w
    have hfa : foundAt es.toList 0 (some q) = some (q, es[q].val) := by simp [foundAt, hqs]
    rw [hfa] at hkey
    have hold : es[q].key = a.eval ix := fits_same hf (hrk q _ i (Array.getElem?_eq_getElem hqs) hq2) hiv
    have hkeep : (Instr.keyThatStays (((es[q]?).map (·.key)).getD (a.eval ix)) (a.eval ix)).run P w = .ok (a.eval ix) w := by
      rw [Array.getElem?_eq_getElem hqs, Option.map_some, Option.getD_some, hold]
      have := sameBits_key hf hiv 9999
      simp only [Instr.keyThatStays]
      rw [if_pos this]
      rfl
    refine fin (es' := es.modify q fun y => { y with key := a.eval ix, val := a.eval x }) ?_ (by simp [hl1]) (by simp [hl2]) hl3 (fun j y u hy hu => ?_) (fun j y u hy hu => ?_) (fun j y r hy hr => ?_)
    · simp only [Instr.mapUpdate, Sem.run_bind, T.desc hti, hds, Result.andThen_ok, hmv, hg, run_checkKey (P := P) T G hk hiv hf, hkey, hkeep, setObj_run hhb]
    · rw [Array.getElem?_modify] at hy
      split at hy
      · rename_i hqj
        subst hqj
        rw [Array.getElem?_eq_getElem hqs] at hy
        simp only [Option.map_some, Option.some.injEq] at hy
        subst hy
        rw [hq2] at hu
        injection hu with hu
        subst hu
        exact hiv
      · exact hrk j y u hy hu
    · rw [Array.getElem?_modify] at hy
      rw [List.getElem?_set] at hu
      split at hy
      · rename_i hqj
        subst hqj
        rw [Array.getElem?_eq_getElem hqs] at hy
        simp only [Option.map_some, Option.some.injEq] at hy
        subst hy
        rw [if_pos rfl, if_pos (by omega)] at hu
        injection hu with hu
        subst hu
        exact hvv
      · rename_i hqj
        rw [if_neg hqj] at hu
        exact hrv j y u hy hu
    · rw [Array.getElem?_modify] at hy
      split at hy
      · rename_i hqj
        subst hqj
        rw [Array.getElem?_eq_getElem hqs] at hy
        simp only [Option.map_some, Option.some.injEq] at hy
        subst hy
        have := hrn q es[q] r (Array.getElem?_eq_getElem hqs) hr
        exact this
      · exact hrn j y r hy hr
  · rename_i hq
    injection ha with ha
    subst ha
    obtain ⟨hf, hfk⟩ := mapIx_ok hq
    have hkey := run_findKey (P := P) T G hk hiv hf hfk hl1 hrk w
    have hfa : foundAt es.toList 0 none = none := rfl
    rw [hfa] at hkey
    have split2 : ∀ {α : Type} {l : List α} {z u : α} {j : Nat}, (l ++ [z])[j]? = some u → l[j]? = some u ∨ (j = l.length ∧ u = z) := by
      intro α l z u j hu
      by_cases hj : j < l.length
      · rw [List.getElem?_append_left hj] at hu; exact .inl hu
      · rw [List.getElem?_append_right (by omega)] at hu
        have : j - l.length = 0 := by
          have := (List.getElem?_eq_some_iff.1 hu).1
          simp at this
          omega
        rw [this] at hu
        simp at hu
        exact .inr ⟨by omega, hu.symm⟩
    have push2 : ∀ {z y : MapEntry} {j : Nat}, (es.push z)[j]? = some y → es[j]? = some y ∨ (j = es.size ∧ y = z) := by
      intro z y j hy
      rw [Array.getElem?_push] at hy
      split at hy
      · injection hy with hy; exact .inr ⟨‹_›, hy.symm⟩
      · exact .inl hy
    refine fin (es' := es.push { key := a.eval ix, val := a.eval x, born := clock }) ?_ (by simp [hl1]) (by simp [hl2]) (by simp [hl3]) (fun j y u hy hu => ?_) (fun j y u hy hu => ?_) (fun j y r hy hr => ?_)
    · simp only [Instr.mapUpdate, Sem.run_bind, T.desc hti, hds, Result.andThen_ok, hmv, hg, run_checkKey (P := P) T G hk hiv hf, hkey, setObj_run hhb]
    · rcases push2 hy with hy | ⟨hj, rfl⟩ <;> rcases split2 hu with hu | ⟨hj', rfl⟩
      · exact hrk j y u hy hu
      · have := (Array.getElem?_eq_some_iff.1 hy).1; omega
      · have := (List.getElem?_eq_some_iff.1 hu).1; omega
      · exact hiv
    · rcases push2 hy with hy | ⟨hj, rfl⟩ <;> rcases split2 hu with hu | ⟨hj', rfl⟩
      · exact hrv j y u hy hu
      · have := (Array.getElem?_eq_some_iff.1 hy).1; omega
      · have := (List.getElem?_eq_some_iff.1 hu).1; omega
      · exact hvv
    · rcases push2 hy with hy' | ⟨hj, rfl⟩
      · rcases split2 hr with hr' | ⟨hj', _⟩
        · exact hrn j y r hy' hr'
        · have := (Array.getElem?_eq_some_iff.1 hy').1; omega
      · rcases split2 hr with hr' | ⟨hj', hrc⟩
        · have := (List.getElem?_eq_some_iff.1 hr').1; omega
        · exact hrc.symm
  · cases ha

end
end Go.AM

/- AM, part 13: append; bytes of a text. -/
namespace Go.AM
noncomputable section
set_option linter.unusedVariables false
set_option linter.unusedSimpArgs false

variable {P : Program} {tt : TypeId → Option TI}
variable {F : Nat → Prop} {ι : Id → Option Nat} {lam : Nat → Nat} {n : Nat} {e : Env} {h : Heap} {a : Act} {w : World}
variable {nid : Id} {dst : Option Nat} {o : Oper} {N : Nat} {eff : Eff}

/-- A slice's elements, as the machine's cells. -/
theorem elems_ok (H : Sim F ι lam n e h a w) {x : AV} {c : Value} {l : List AV} {m : Nat} {rd : List Key} {es : Nat} (hx : RV F w ι x c) (he : elems es h x = some (l, m, rd)) :
    ∃ ad cap, c = .slice ad m cap ∧ (l ≠ [] → ∃ b off, ad = some ⟨b, off, none⟩ ∧ ∀ (j : Nat) (u : AV), l[j]? = some u → ∃ c', w.cell? ⟨b, off + j, none⟩ = some c' ∧ RV F w ι u c') := by
  unfold elems at he
  split at he
  · simp only [Option.some.injEq, Prod.mk.injEq] at he
    obtain ⟨rfl, rfl, _⟩ := he
    have := hx.nils_inv
    subst this
    exact ⟨_, _, rfl, fun h => absurd rfl h⟩
  · rename_i cs len esz cl
    split at he
    case h_2 => cases he
    rename_i l' hl'
    simp only [Option.some.injEq, Prod.mk.injEq] at he
    obtain ⟨rfl, rfl, _⟩ := he
    obtain ⟨h1, h2, h3⟩ := sub_ok hl'
    obtain ⟨ad, cap, b, base, cv, rfl, _, _, _, had, hne, hcell, hrv⟩ := hx.pslice_inv
    refine ⟨_, _, rfl, fun hn => ?_⟩
    have hpos : 0 < len := by
      refine Nat.pos_of_ne_zero (fun h0 => hn ?_)
      subst h0
      exact List.eq_nil_of_length_eq_zero (by simpa using h2)
    refine ⟨b, base, (had hpos).1, fun j u hu => ?_⟩
    have hj : j < len * es := by rw [← h2]; exact (List.getElem?_eq_some_iff.1 hu).1
    rw [h3 j hj, Nat.zero_add] at hu
    exact ⟨_, hcell j u hu, (hrv j u hu).up⟩
  · rename_i o' co len esz cl
    split at he
    case h_2 => cases he
    rename_i cs hob
    split at he
    case h_2 => cases he
    rename_i l' hl'
    simp only [Option.some.injEq, Prod.mk.injEq] at he
    obtain ⟨rfl, rfl, _⟩ := he
    obtain ⟨h1, h2, h3⟩ := sub_ok hl'
    obtain ⟨b, cap, arr, ety, fz, rfl, hb, _⟩ := hx.slice_inv
    obtain ⟨b', hb', _, hro⟩ := H.obj o' _ hob
    rw [hb] at hb'
    injection hb' with hb'
    subst hb'
    refine ⟨_, _, rfl, fun hn => ⟨b, co, rfl, fun j u hu => ?_⟩⟩
    have hj : j < len * esz := by rw [← h2]; exact (List.getElem?_eq_some_iff.1 hu).1
    rw [h3 j hj] at hu
    exact hro.cell hu
  · cases he

section
variable {t ty e' : TypeId} {i : TypeInfo}
theorem run_append_zero (ht : P.underlying t = some (.slice e')) (hi : P.info? e' = some i) (base src : Option Addr) (len cap c : Nat) (hle : len ≤ cap) (w : World) :
    (Builtin.append_ #[t, t] ty #[.slice base len cap, .slice src 0 c]).run P w = .ok (.slice base len cap) w := by
  cases base <;> cases src <;> simp [Builtin.append_, run_underlying ht, sizeOf, typeInfo, hi, Builtin.lenOf, hle, Builtin.firstCells, loadCells, loadCellsFrom, storeCells]

/-- There is room. -/
theorem run_append_in (ht : P.underlying t = some (.slice e')) (hi : P.info? e' = some i) {b off len cap m c : Nat} {arr : Array Value} {ety : TypeId} {lo hi' : Nat} {ad : Addr} {news : List Value} {w : World} (hb : w.heap[b]? = some (.cells arr ety (lo, hi')))
    (hfz : ∀ j, j < arr.size → ¬ (lo ≤ j ∧ j < hi')) (hl : news.length = m * i.size) (hnews : ∀ (j : Nat) (u : Value), news[j]? = some u → w.cell? (ad.add j) = some u) (h1 : ∀ u ∈ news, u.oneCell' = true) (hroom : len + m ≤ cap) (hfit : off + len * i.size + news.length ≤ arr.size) :
    (Builtin.append_ #[t, t] ty #[.slice (some ⟨b, off, none⟩) len cap, .slice (some ad) m c]).run P w = .ok (.slice (some ⟨b, off, none⟩) (len + m) cap) (w.setRow b (setFrom arr (off + len * i.size) news)) := by
  have hf := run_firstCells_some (P := P) w i.size m ad m c news hl hnews
  have hst := run_storeRow (P := P) (off := off + len * i.size) news 0 arr w hb hfz (by simpa using hfit) h1
  simp only [Nat.add_zero] at hst
  simp [Builtin.append_, run_underlying ht, sizeOf, typeInfo, hi, Builtin.lenOf, hroom, hf, add_lit', hst]
end

theorem rvs_append {cs ds : List AV} {xs ys : List Value} (h1 : xs.length = cs.length) (h2 : ∀ (j : Nat) (u : AV) (c : Value), cs[j]? = some u → xs[j]? = some c → RV F w ι u c) (h3 : ∀ (j : Nat) (u : AV) (c : Value), ds[j]? = some u → ys[j]? = some c → RV F w ι u c) :
    ∀ (j : Nat) (u : AV) (c : Value), (cs ++ ds)[j]? = some u → (xs ++ ys)[j]? = some c → RV F w ι u c := by
  intro j u c hu hc
  by_cases hj : j < cs.length
  · rw [List.getElem?_append_left hj] at hu
    rw [List.getElem?_append_left (by omega)] at hc
    exact h2 j u c hu hc
  · rw [List.getElem?_append_right (by omega)] at hu
    rw [List.getElem?_append_right (by omega), h1] at hc
    exact h3 _ u c hu hc

theorem ok_append (T : TOk P tt) (H : Sim F ι lam n e h a w) (hn : ι nid = none) (hd : ∀ d, dst = some d → d < n) {t el : TypeId} {c : Call} {s x : Operand} {ti j : TI} {z : Value} (hc : c.callee = .builtin .append) (hts : c.argTypes.toList = [t, t]) (hargs : c.args.toList = [s, x])
    (hti : tt t = some ti) (hds : ti.desc = .slice el) (hj : tt el = some j) (hz : j.zero = some z) (hzl : z.cells.size = j.size) (hpos : 1 ≤ j.size) (hb1 : 1 ≤ j.bytes) (ho : o.op = .call c) (ha : aop e h nid dst (.append j.size j.bytes s x) = some eff) :
    Out P F ι lam n e h a w nid dst o (St.eff ⟨e, h, N⟩ dst eff) := by
  have hargs2 : c.args = #[s, x] := by rw [← Array.toList_inj, hargs]
  have hts2 : c.argTypes = #[t, t] := by rw [← Array.toList_inj, hts]
  have hrun : ∀ (v : Value) (w' : World), (Builtin.append_ #[t, t] o.type #[a.eval s, a.eval x]).run P w = .ok v w' → (execOp a.eval o).run P w = .ok (.value v) w' := by
    intro v w' hv
    simp only [execOp, ho, resolve, hc, Sem.run_bind, Sem.run_pure, Result.andThen_ok, invoke, builtin, hargs2, hts2, List.map_toArray, List.map_cons, List.map_nil, hv]
  obtain ⟨f, hf1, hf2, hf3, hf4⟩ := T.info el j hj
  have hund : P.underlying t = some (.slice el) := by rw [← hds]; exact T.und t ti hti
  simp only [aop] at ha
  split at ha
  case h_2 => cases ha
  rename_i sv xv hs hx
  split at ha
  case h_2 => cases ha
  rename_i new m rd hel
  have hsv := evA_ok H hs
  have hxv := evA_ok H hx
  obtain ⟨ad, cap, hxc, hne⟩ := elems_ok H hxv hel
  unfold appendTo at ha
  cases hm0 : (m == 0)
  case true =>
    have hm : m = 0 := by simpa using hm0
    subst hm
    simp only [BEq.rfl, cond_true] at ha
    cases hsl : sv.isSl
    · simp [hsl] at ha
    rw [hsl] at ha
    simp only [cond_true, Option.some.injEq] at ha
    subst ha
    have hsc : ∃ base len scap, a.eval s = .slice base len scap ∧ len ≤ scap := by
      cases sv <;> simp only [AV.isSl, Bool.false_eq_true] at hsl
      · exact ⟨_, _, _, hsv.nils_inv, Nat.le_refl _⟩
      · obtain ⟨b, scap, _, _, _, h1, _, _, _, h2, _⟩ := hsv.slice_inv
        exact ⟨_, _, _, h1, h2⟩
      · obtain ⟨_, scap, _, _, _, h1, h2, _⟩ := hsv.pslice_inv
        exact ⟨_, _, _, h1, h2⟩
    obtain ⟨base, len, scap, hsc, hle⟩ := hsc
    refine quiet_val H hd (v := a.eval s) (hrun _ _ ?_) hsv
    rw [hsc, hxc]
    exact run_append_zero hund hf1 base ad len scap cap hle w
  case false =>
    rw [hm0] at ha
    simp only [cond_false] at ha
    have hmpos : 0 < m := by
      have : m ≠ 0 := by simpa using hm0
      omega
    cases hbb : (!(ones new) || !(new.length == m * j.size))
    case true => simp [hbb] at ha
    rw [hbb] at ha
    simp only [cond_false] at ha
    simp only [Bool.or_eq_false_iff, Bool.not_eq_false', beq_iff_eq] at hbb
    obtain ⟨hone, hnl⟩ := hbb
    have hnne : new ≠ [] := by
      rintro rfl
      simp only [List.length_nil] at hnl
      have : 0 < m * j.size := Nat.mul_pos hmpos hpos
      omega
    obtain ⟨xb, xo, rfl, hcells⟩ := hne hnne
    obtain ⟨news, hn1, hn2, hn3⟩ := cells_list hnl hcells
    have hnews : ∀ (q : Nat) (u : Value), news[q]? = some u → w.cell? ((⟨xb, xo, none⟩ : Addr).add q) = some u := fun q u hu => by rw [add_lit']; exact hn2 q u hu
    have h1 : ∀ u ∈ news, u.oneCell' = true := ones_cells hone (by rw [hn1, hnl]) hn3
    have hnl' : news.length = m * f.size := by rw [hn1, hf2]
    -- where a new row is made
    have grown : ∀ {base : Option Addr} {len scap : Nat} {old : List AV} {olds : List Value} {rd' wr : List Key}, a.eval s = .slice base len scap → olds.length = len * j.size → old.length = olds.length → (∀ (q : Nat) (u : AV) (v : Value), old[q]? = some u → olds[q]? = some v → RV F w ι u v) →
        (base = none → len = 0 ∧ scap = 0) → (∀ b, base = some b → ∀ (q : Nat) (v : Value), olds[q]? = some v → w.cell? (b.add q) = some v) → scap < len + m → (len + m) * j.bytes ≤ 140737488355328 → ∀ del : Option Id,
        Out P F ι lam n e h a w nid dst o (St.eff ⟨e, h, N⟩ dst { val := .v (.slice nid 0 (len + m) j.size false), put := [(nid, .cells (old ++ new))], del, rd := rd', wr }) := by
      intro base len scap old olds rd' wr hse ho1 ho2 hor hbn hbs hlt hby del
      have hbytes : (len + m) * f.bytes ≤ 140737488355328 := by rw [hf3]; exact hby
      have hsmall : len + m ≤ 140737488355328 := Nat.le_trans (Nat.le_mul_of_pos_right _ (by rw [← hf3] at hb1; exact hb1)) hbytes
      have hge := grownCap_ge w (len + m) scap el
      have hcm : grownCap w (len + m) scap el ≤ maxLen := grownCap_le_maxLen w (len + m) scap el (by simp only [maxLen]; omega)
      have hpu := Pushed.drew w (.cells (olds.toArray ++ news.toArray ++ Builtin.zeroCells z.cells (grownCap w (len + m) scap el - (len + m))) el)
      have hr : (Builtin.append_ #[t, t] o.type #[a.eval s, a.eval x]).run P w = .ok (.slice (some ⟨w.heap.size, 0, none⟩) (len + m) (grownCap w (len + m) scap el)) (w.drew.alloc (.cells (olds.toArray ++ news.toArray ++ Builtin.zeroCells z.cells (grownCap w (len + m) scap el - (len + m))) el)) := by
        rw [hse, hxc]
        cases base with
        | none =>
          obtain ⟨rfl, rfl⟩ := hbn rfl
          have hol : olds = [] := List.eq_nil_of_length_eq_zero (by simpa using ho1)
          subst hol
          have := run_append_nil (P := P) w t o.type el f z hund hf1 (by rw [hf4, hz]) ⟨xb, xo, none⟩ m cap news hnl' hnews hmpos (by simp only [Nat.zero_add] at hsmall; omega) (by simp only [Nat.zero_add] at hbytes; omega)
          simpa using this
        | some b =>
          exact run_append_grow (P := P) w t o.type el f z hund hf1 (by rw [hf4, hz]) b len scap olds (by rw [ho1, hf2]) (fun q v hv => hbs b rfl q v hv) ⟨xb, xo, none⟩ m cap news hnl' hnews hlt (by omega) (growslice_fits (by omega) hbytes)
      have hsz : (olds.toArray ++ news.toArray ++ Builtin.zeroCells z.cells (grownCap w (len + m) scap el - (len + m))).size = grownCap w (len + m) scap el * j.size := by
        simp only [Array.size_append, List.size_toArray, size_zeroCells, hzl, ho1, hn1, ← Nat.add_mul]
        congr 1
        omega
      refine new_out H hn hd hpu (hrun _ _ hr) (ro_new hpu rfl (by rw [hsz]; simp only [List.length_append, ho2, ho1, hnl, ← Nat.add_mul]; exact Nat.mul_le_mul_right _ hge) (fun q u v hu hv => ?_))
        (.slice _ _ _ _ _ _ _ _ _ el (0, 0) (ext_self _ _ _) hpu.new (by rw [hsz]; omega) hge hcm (by simp))
      refine rv_push H hn hpu (rvs_append (xs := olds) (ys := news ++ (Builtin.zeroCells z.cells (grownCap w (len + m) scap el - (len + m))).toList) ho2.symm hor (fun q u v hu hv => hn3 q u v hu ?_) q u v hu ?_)
      · have hq : q < news.length := by rw [hn1, ← hnl]; exact (List.getElem?_eq_some_iff.1 hu).1
        rwa [List.getElem?_append_left hq] at hv
      · rw [← Array.getElem?_toList] at hv
        simpa [List.append_assoc] using hv
    split at ha
    · cases hby : Nat.ble (m * j.bytes) 140737488355328
      · simp [hby] at ha
      rw [hby] at ha
      simp only [cond_true, Option.some.injEq] at ha
      subst ha
      have hsc := hsv.nils_inv
      have := grown (old := []) (olds := []) (rd' := rd) (wr := [.obj nid]) hsc (by simp) rfl (by simp) (fun _ => ⟨rfl, rfl⟩) (by simp) (by omega) (by simpa using Nat.le_of_ble_eq_true hby) none
      simpa using this
    · rename_i cs len esz'
      cases hby : Nat.ble ((len + m) * j.bytes) 140737488355328
      · simp [hby] at ha
      rw [hby] at ha
      simp only [cond_true] at ha
      split at ha
      case h_2 => cases ha
      rename_i l hl
      injection ha with ha
      subst ha
      obtain ⟨g1, g2, g3⟩ := sub_ok hl
      obtain ⟨bad, scap, b, base, cv, hsc, hle, hmx, hcl, had, hcne, hcell, hrv⟩ := hsv.pslice_inv
      have hcap : scap = len := hcl rfl
      by_cases h0 : len = 0
      · subst h0
        have hlnil : l = [] := List.eq_nil_of_length_eq_zero (by simpa using g2)
        subst hlnil
        exact grown (old := []) (olds := []) hsc (by simp) rfl (by simp) (fun _ => ⟨rfl, hcap⟩) (by simp) (by omega) (Nat.le_of_ble_eq_true hby) none
      · obtain ⟨rfl, hFb⟩ := had (by omega)
        obtain ⟨olds, k1, k2, k3⟩ := cells_list (b := b) (o := base) (F := F) (ι := ι) (w := w) g2 (fun q u hu => by
          have hq : q < len * j.size := by rw [← g2]; exact (List.getElem?_eq_some_iff.1 hu).1
          rw [g3 q hq, Nat.zero_add] at hu
          exact ⟨_, hcell q u hu, (hrv q u hu).up⟩)
        exact grown (old := l) (olds := olds) hsc k1 (by rw [g2, k1]) k3 (by simp) (fun b' hb' q v hv => by injection hb' with hb'; subst hb'; rw [add_lit']; exact k2 q v hv) (by omega) (Nat.le_of_ble_eq_true hby) none
    · rename_i o' co len esz' clip
      cases hcond : (j.size == esz' && Nat.ble ((len + m) * j.bytes) 140737488355328)
      · simp [hcond] at ha
      rw [hcond] at ha
      simp only [Bool.and_eq_true, beq_iff_eq] at hcond
      obtain ⟨rfl, hby⟩ := hcond
      simp only [cond_true] at ha
      split at ha
      case h_2 => cases ha
      rename_i cs hob
      obtain ⟨b, scap, arr0, ety0, fz0, hsc, hb, hhb, hsz, hle, hmx, hcl⟩ := hsv.slice_inv
      obtain ⟨b', hb', hF, arr, ety, lo, hi, hhb', hfz, hlen, hrv⟩ := H.obj o' _ hob
      rw [hb] at hb'
      injection hb' with hb'
      subst hb'
      rw [hhb] at hhb'
      injection hhb' with hhb'
      injection hhb' with q1 q2 q3
      subst q1
      subst q2
      subst q3
      have hro : RO F w ι (.cells cs) b := ⟨arr0, ety0, lo, hi, hhb, hfz, hlen, hrv⟩
      cases clip
      · simp only [cond_false] at ha
        cases hcc : (co == 0 && cs.length == len * j.size)
        · simp [hcc] at ha
        rw [hcc] at ha
        simp only [cond_true, Option.some.injEq] at ha
        subst ha
        simp only [Bool.and_eq_true, beq_iff_eq] at hcc
        obtain ⟨rfl, hcsl⟩ := hcc
        by_cases hroom : len + m ≤ scap
        · -- there is room
          have hle2 : (len + m) * j.size ≤ scap * j.size := Nat.mul_le_mul_right _ hroom
          have hfit : 0 + len * f.size + news.length ≤ arr0.size := by rw [hf2, hn1, Nat.zero_add, ← Nat.add_mul]; omega
          have hr := run_append_in (P := P) (ty := o.type) (c := cap) (ad := ⟨xb, xo, none⟩) hund hf1 hhb hfz hnl' hnews h1 hroom hfit
          have hsf : (setFrom arr0 (0 + len * f.size) news).size = arr0.size := setFrom_size _ _ _
          have H1 := H.del o'
          have hno : ¬ Owns ι lam e (h.del o') b := by
            rintro (⟨t, ds, ht, hl⟩ | ⟨i, q, hi, hl⟩)
            · exact H.lh t ds o' _ ht hob (by rw [hb, hl])
            · rw [Heap.get_del] at hi
              split at hi
              · cases hi
              · rename_i hne
                exact hne (H.hh i o' q _ b hi hob hl hb)
          have H2 := H1.write (arr' := setFrom arr0 (0 + len * f.size) news) hhb hsf hF hno
          have hblt : b < w.heap.size := H.iot _ _ hb
          have hk := setRow_kept (own := Owns ι lam e h) (arr' := setFrom arr0 (0 + len * f.size) news) hhb hsf (.inr ⟨o', _, hob, hb⟩)
          have H3 : Sim F (ext ι nid b) lam n e (h.del o') a (w.setRow b (setFrom arr0 (0 + len * f.size) news)) :=
            H2.move (fun _ h => h) H2.fin (fun c hc hf => H2.notF hf hc) (fun _ _ => rfl) (fun _ _ => rfl) (ext_le hn _) (fun i c hi => by
              by_cases hh : i = nid
              · subst hh; rw [ext_self] at hi; injection hi with hi; subst hi; simpa [World.setRow] using hblt
              · rw [ext_ne ι _ hh] at hi; exact H2.iot i c hi) (fun i c _ => .refl _ _) (Nat.le_refl _)
          have hup : ∀ {y : AV} {v : Value}, RV F w ι y v → RV F (w.setRow b (setFrom arr0 (0 + len * f.size) news)) (ext ι nid b) y v := fun hy =>
            (rv_write H hhb hsf hF hy).mono (fun _ h => h) (fun _ _ => rfl) (ext_le hn _) (fun _ _ _ => .refl _ _)
          have H4 := H3.obj_put (i := nid) (o := .cells (cs ++ new)) (ext_self _ _ _) hF
            ⟨_, ety0, lo, hi, setRow_heap w b arr0 _ ety0 (lo, hi) hhb, by rw [hsf]; exact hfz, by rw [hsf, List.length_append, hcsl, hnl, ← Nat.add_mul]; omega, fun q u v hu hv => hup (by
              rw [setFrom_get _ _ _ _ (by omega)] at hv
              by_cases hq : q < cs.length
              · rw [List.getElem?_append_left hq] at hu
                rw [if_neg (by rw [hf2, Nat.zero_add, ← hcsl]; omega)] at hv
                exact hrv q u v hu hv
              · rw [List.getElem?_append_right (by omega)] at hu
                have hq2 : q - cs.length < new.length := (List.getElem?_eq_some_iff.1 hu).1
                rw [if_pos (by rw [hf2, Nat.zero_add, ← hcsl, hn1, ← hnl]; omega), hf2, Nat.zero_add, ← hcsl] at hv
                exact hn3 _ u v hu hv)⟩
            (fun i p hi hl => by
              by_cases hh : i = nid
              · exact hh
              · rw [ext_ne ι _ hh] at hl
                exact absurd (.inr ⟨i, p, hi, hl⟩) hno) (fun t ds ht hl => hno (.inl ⟨t, ds, ht, hl⟩))
          have hval : RV F (w.setRow b (setFrom arr0 (0 + len * f.size) news)) (ext ι nid b) (.slice nid 0 (len + m) j.size false) (.slice (some ⟨b, 0, none⟩) (len + m) scap) :=
            .slice _ _ _ _ _ _ _ _ _ ety0 (lo, hi) (ext_self _ _ _) (setRow_heap w b arr0 _ ety0 (lo, hi) hhb) (by rw [hsf]; omega) hroom hmx (by simp)
          have hown : ∀ (e' : Env), (∀ s cs, e'.get s = some (.box cs) → e.get s = some (.box cs)) → ∀ c, Owns (ext ι nid b) lam e' ((h.del o').put nid (.cells (cs ++ new))) c → Owns ι lam e h c ∨ w.heap.size ≤ c := by
            rintro e' he c (⟨t, ds, ht, hl⟩ | ⟨i, p, hi, hl⟩)
            · exact .inl (.inl ⟨t, ds, he t ds ht, hl⟩)
            · rw [Heap.get_put] at hi
              by_cases hh : i = nid
              · subst hh
                rw [ext_self] at hl
                injection hl with hl
                exact .inl (.inr ⟨o', _, hob, by rw [hb, hl]⟩)
              · rw [if_neg hh, Heap.get_del] at hi
                rw [ext_ne ι _ hh] at hl
                split at hi
                · cases hi
                · exact .inl (.inr ⟨i, p, hi, hl⟩)
          have hr2 : (execOp a.eval o).run P w = .ok (.value (.slice (some ⟨b, 0, none⟩) (len + m) scap)) (w.setRow b (setFrom arr0 (0 + len * f.size) news)) := hrun _ _ (by rw [hsc, hxc]; exact hr)
          cases dst with
          | none => exact ⟨_, _, _, _, lam, hr2, .inl rfl, H4, hk, ext_le hn _, fun i hi => ext_ne ι _ hi, hown e (fun _ _ h => h)⟩
          | some d => exact ⟨_, _, _, _, lam, hr2, .inl rfl, H4.put (hd d rfl) (by simp) hval, hk, ext_le hn _, fun i hi => ext_ne ι _ hi, hown _ (fun s cs hs => by
              change (e.put d _).get s = some (.box cs) at hs
              rw [Env.get_put] at hs
              split at hs
              · simp at hs
              · exact hs)⟩
        · obtain ⟨olds, k1, k2, k3⟩ := cells_list (b := b) (o := 0) (F := F) (ι := ι) (w := w) hcsl (fun q u hu => by rw [Nat.zero_add]; exact hro.cell hu)
          exact grown (old := cs) (olds := olds) hsc k1 (by rw [hcsl, k1]) k3 (by simp) (fun b' hb' q v hv => by injection hb' with hb'; subst hb'; rw [add_lit']; exact k2 q v hv) (by omega) (Nat.le_of_ble_eq_true hby) (some o')
      · simp only [cond_true] at ha
        split at ha
        case h_2 => cases ha
        rename_i l hl
        injection ha with ha
        subst ha
        obtain ⟨g1, g2, g3⟩ := sub_ok hl
        have hcap : scap = len := hcl rfl
        obtain ⟨olds, k1, k2, k3⟩ := cells_list (b := b) (o := co) (F := F) (ι := ι) (w := w) g2 (fun q u hu => by
          have hq : q < len * j.size := by rw [← g2]; exact (List.getElem?_eq_some_iff.1 hu).1
          rw [g3 q hq] at hu
          exact hro.cell hu)
        exact grown (old := l) (olds := olds) hsc k1 (by rw [g2, k1]) k3 (by simp) (fun b' hb' q v hv => by injection hb' with hb'; subst hb'; rw [add_lit']; exact k2 q v hv) (by omega) (Nat.le_of_ble_eq_true hby) none
    · cases ha

end
end Go.AM
