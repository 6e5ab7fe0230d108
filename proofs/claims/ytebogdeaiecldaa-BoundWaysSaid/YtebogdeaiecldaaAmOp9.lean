/- Parts of the proof: AM.Op9, AM.Call1, AM.Call2, AM.Step, AM.Reg, AM.RunS, AM.Draw1, AM.Draw2, AM.Draw3. -/
import Derived.Test.YtebogdeaiecldaaAmOp3
import Derived.Orders
/- AM, part 14: every operation but calls. -/
namespace Go.AM
noncomputable section
set_option linter.unusedVariables false
set_option linter.unusedSimpArgs false

variable {P : Program} {tt : TypeId → Option TI}
variable {F : Nat → Prop} {ι : Id → Option Nat} {lam : Nat → Nat} {n : Nat} {e : Env} {h : Heap} {a : Act} {w : World}
variable {nid : Id} {dst : Option Nat} {o : Oper} {N : Nat} {eff : Eff}

theorem run_mark (w : World) (arr : Array Value) (el : TypeId) :
    (markStringish ⟨w.heap.size, 0, none⟩).run P { w with heap := w.heap.push (.cells arr el) } = .ok () { w with heap := w.heap.push (.cells arr el (arr.size, arr.size + 1)) } := by
  have h1 : World.shape? { w with heap := w.heap.push (.cells arr el) } w.heap.size = some (el, arr.size) := by
    simp only [World.shape?, Array.getElem?_push, if_true]
  have h2 : World.freeze { w with heap := w.heap.push (.cells arr el) } { block := w.heap.size, off := arr.size } 1 = { w with heap := w.heap.push (.cells arr el (arr.size, arr.size + 1)) } := by
    simp only [World.freeze, if_neg (show ¬ (1 = 0) by omega)]
    congr 1
    apply Array.ext
    · simp
    · intro q hq1 hq2
      rw [Array.getElem_modify]
      by_cases hqq : w.heap.size = q
      · subst hqq; simp
      · rw [if_neg hqq]
        have : q < w.heap.size := by simp at hq2; omega
        rw [Array.getElem_push_lt this, Array.getElem_push_lt this]
  simp only [markStringish, Sem.run_bind, run_shape, h1, Result.andThen_ok]
  show Result.ok () _ = _
  rw [h2]

theorem ok_toBytes (T : TOk P tt) (H : Sim F ι lam n e h a w) (hn : ι nid = none) (hd : ∀ d, dst = some d → d < n) {s t el : TypeId} {x : Operand} {i j : TI} (hi : tt s = some i) (hj : tt t = some j) (hds : i.desc = .string) (hdt : j.desc = .slice el) (hck : ckOf tt el = some (.int .u8))
    (ho : o.op = .convert s t x) (ha : aop e h nid dst (.cvt (.toBytes el) x) = some eff) : Out P F ι lam n e h a w nid dst o (St.eff ⟨e, h, N⟩ dst eff) := by
  obtain ⟨k, hk, hkd⟩ := ckOf_desc hck
  have hkd' : k.desc = .int .u8 := by
    rcases hkd with ⟨q, h1, h2⟩ | ⟨h1, _⟩ | ⟨h1, _⟩
    · injection h1 with h1; rw [h1]; exact h2
    · cases h1
    · cases h1
  simp only [aop] at ha
  split at ha
  · rename_i h1 _; cases h1
  · rename_i h1 _; cases h1
  · rename_i el' b h1 h2
    injection h1 with h1
    subst h1
    cases hle : Nat.ble b.size 9223372036854775807
    · simp [hle] at ha
    rw [hle] at ha
    simp only [Bool.not_true, cond_false, Option.some.injEq] at ha
    subst ha
    have hbs : b.size ≤ 9223372036854775807 := Nat.le_of_ble_eq_true hle
    have hcv := (evA_ok H h2).str_inv
    let cap := (Question.appendCap b.size 0 el).cut (w.tape w.drawn (.appendCap b.size 0 el))
    let arr : Array Value := (b.data.map fun b => Value.int .u8 b.toNat) ++ Array.replicate (cap - b.size) (.int .u8 0)
    have hcap : b.size ≤ cap ∧ cap ≤ maxLen := by
      show b.size ≤ b.size + w.tape w.drawn (.appendCap b.size 0 el) % (2 ^ 63 - b.size) ∧ b.size + w.tape w.drawn (.appendCap b.size 0 el) % (2 ^ 63 - b.size) ≤ maxLen
      have := Nat.mod_lt (w.tape w.drawn (.appendCap b.size 0 el)) (show 0 < 2 ^ 63 - b.size by omega)
      simp only [maxLen]
      omega
    have hsz : arr.size = cap := by
      show ((b.data.map fun (b : UInt8) => Value.int .u8 (b.toNat : Int)) ++ Array.replicate (cap - b.size) (Value.int .u8 0)).size = cap
      simp only [Array.size_append, Array.size_map, Array.size_replicate]
      have : b.data.size = b.size := rfl
      omega
    let w' : World := { heap := w.heap.push (.cells arr el (arr.size, arr.size + 1)), tape := w.tape, drawn := w.drawn + 1, os := w.os, output := w.output }
    have hpu : Pushed w w' (.cells arr el (arr.size, arr.size + 1)) := ⟨rfl, rfl, rfl, rfl⟩
    refine new_out H hn hd hpu (v := .slice (some ⟨w.heap.size, 0, none⟩) b.size cap) ?_ ⟨arr, el, arr.size, arr.size + 1, hpu.new, fun q hq => by omega, ?_, fun q u c hu hc => ?_⟩
      (.slice _ _ _ _ _ _ _ _ arr el _ (ext_self _ _ _) hpu.new (by omega) hcap.1 hcap.2 (by simp))
    · have hrun1 : (Conv.stringToBytes el b).run P w = .ok (.slice (some ⟨w.heap.size, 0, none⟩) b.size cap) w' := by
        simp only [Conv.stringToBytes, Sem.run_bind, run_choose, Question.forced, Bool.false_eq_true, if_false, Result.andThen_ok, newRow, run_newObj, Sem.run_pure]
        have hm := run_mark (P := P) { heap := w.heap, tape := w.tape, drawn := w.drawn + 1, os := w.os, output := w.output } arr el
        change Result.andThen ((markStringish ⟨w.heap.size, 0, none⟩).run P { heap := w.heap.push (.cells arr el), tape := w.tape, drawn := w.drawn + 1, os := w.os, output := w.output }) _ = _
        rw [show (markStringish ⟨w.heap.size, 0, none⟩).run P { heap := w.heap.push (.cells arr el), tape := w.tape, drawn := w.drawn + 1, os := w.os, output := w.output } = _ from hm]
        rfl
      simp only [execOp, ho, hcv, convert, Sem.run_bind, T.desc hi, T.desc hj, Result.andThen_ok, hds, hdt, T.desc hk, hkd', hrun1, Sem.run_pure]
    · simp only [List.length_map, Array.length_toList, hsz]
      exact hcap.1
    · simp only [List.getElem?_map, Array.getElem?_toList] at hu
      cases hq : b.data[q]? with
      | none => rw [hq] at hu; simp at hu
      | some y =>
        rw [hq] at hu
        simp only [Option.map_some, Option.some.injEq] at hu
        subst hu
        have hql : q < b.data.size := (Array.getElem?_eq_some_iff.1 hq).1
        have : arr[q]? = some (.int .u8 y.toNat) := by
          show ((b.data.map fun (b : UInt8) => Value.int .u8 (b.toNat : Int)) ++ _)[q]? = _
          rw [Array.getElem?_append_left (by simpa using hql), Array.getElem?_map, hq]
          rfl
        rw [this] at hc
        injection hc with hc
        subst hc
        exact .int _ _ _
  · cases ha

theorem bind_ofZero {i : TI} {zs : List AV} (h : i.zero.bind ofZero = some zs) : ∃ z, i.zero = some z ∧ ofZero z = some zs := by
  cases hz : i.zero with
  | none => rw [hz] at h; simp at h
  | some z => rw [hz] at h; exact ⟨z, rfl, h⟩

theorem sliceElem_ok {t : TypeId} {e' : TypeId} {j : TI} (h : sliceElem tt t = some (e', j)) : ∃ i, tt t = some i ∧ i.desc = .slice e' ∧ tt e' = some j := by
  unfold sliceElem at h
  split at h
  case h_2 => cases h
  rename_i i hi
  split at h
  case h_2 => cases h
  rename_i el hd
  split at h
  case h_2 => cases h
  rename_i j' hj
  simp only [Option.some.injEq, Prod.mk.injEq] at h
  obtain ⟨rfl, rfl⟩ := h
  exact ⟨i, hi, hd, hj⟩

/-- Every operation but a call of a function. -/
theorem op_ok (T : TOk P tt) (G : FOk P tt) (H : Sim F ι lam n e h a w) (hn : ι nid = none) (hd : ∀ d, dst = some d → d < n) {hp : Bool} {vop : VOp} (hs : stripOp tt hp o = some vop) (ha : aop e h nid dst vop = some eff) :
    Out P F ι lam n e h a w nid dst o (St.eff ⟨e, h, N⟩ dst eff) := by
  unfold stripOp at hs
  split at hs
  -- move, assign
  · rename_i x ho; injection hs with hs; subst hs; exact ok_move H hd (.inl ho) ha
  · rename_i x ho; injection hs with hs; subst hs; exact ok_move H hd (.inr ho) ha
  · rename_i c x y ho; injection hs with hs; subst hs; exact ok_pick H hd ho ha
  · rename_i t ho
    split at hs
    case h_2 => cases hs
    rename_i i hi
    split at hs
    case h_2 => cases hs
    rename_i zs hz
    injection hs with hs; subst hs
    obtain ⟨z, h1, h2⟩ := bind_ofZero hz
    exact ok_alloc T H hn hd hi h1 h2 ho ha
  · rename_i t x ho; injection hs with hs; subst hs; exact ok_box H hn hd ho ha
  · rename_i t parts ho
    split at hs
    case h_2 => cases hs
    rename_i i hi
    split at hs
    · rename_i fs zs hds hz
      obtain ⟨z, h1, h2⟩ := bind_ofZero hz
      split at hs
      case h_2 => cases hs
      rename_i l hl
      cases hall : (fs.toList.all fun f => (tt f.type).isSome)
      · simp [hall] at hs
      rw [hall] at hs
      simp only [cond_true, Option.some.injEq] at hs
      subst hs
      exact ok_build_struct T H hd hi hds h1 h2 hl hall ho ha
    · rename_i m el zs hds hz
      obtain ⟨z, h1, h2⟩ := bind_ofZero hz
      split at hs
      case h_2 => cases hs
      rename_i j hj
      injection hs with hs; subst hs
      exact ok_build_array T H hd hi hds h1 h2 hj ho ha
    · cases hs
  · rename_i t len parts ho
    split at hs
    case h_2 => cases hs
    rename_i el j hse
    obtain ⟨i, hi, hds, hj⟩ := sliceElem_ok hse
    split at hs
    case h_2 => cases hs
    rename_i zs hz
    obtain ⟨z, h1, h2⟩ := bind_ofZero hz
    cases hb : (zs.length == j.size && Nat.ble (len * j.size) 16777216 && Nat.ble 1 j.size)
    · simp [hb] at hs
    rw [hb] at hs
    simp only [cond_true, Option.some.injEq] at hs
    subst hs
    simp only [Bool.and_eq_true, beq_iff_eq] at hb
    exact ok_bslice T H hn hd hi hds hj h1 h2 hb.1.1 (Nat.le_of_ble_eq_true hb.1.2) (Nat.le_of_ble_eq_true hb.2) ho ha
  · rename_i t x ho
    split at hs
    case h_2 => cases hs
    rename_i k hk
    injection hs with hs; subst hs
    exact ok_load T H hd hk ho ha
  · rename_i t x y ho
    split at hs
    case h_2 => cases hs
    rename_i i hi
    injection hs with hs; subst hs
    exact ok_store T H hd hi ho ha
  · rename_i x ho; injection hs with hs; subst hs; exact ok_nilck H hd ho ha
  · rename_i op t x y u ho
    split at hs
    · split at hs
      case h_2 => cases hs
      rename_i k hk
      injection hs with hs; subst hs
      exact ok_eqv (neq := false) T G H hd hk ho ha
    · split at hs
      case h_2 => cases hs
      rename_i k hk
      injection hs with hs; subst hs
      exact ok_eqv (neq := true) T G H hd hk ho ha
    · rename_i h1 h2
      injection hs with hs; subst hs
      exact ok_bin H hd ⟨fun h => h1 h, fun h => h2 h⟩ ho ha
  · rename_i op t x ho; injection hs with hs; subst hs; exact ok_un H hd ho ha
  · rename_i s t x ho
    split at hs
    case h_2 => cases hs
    rename_i i j hi hj
    split at hs
    · rename_i k' k h1 h2; injection hs with hs; subst hs; exact ok_cvt_int T H hd hi hj h1 h2 ho ha
    · rename_i h1 h2; injection hs with hs; subst hs; exact ok_cvt_same T H hd hi hj h1 h2 ho ha
    · rename_i el h1 h2
      split at hs
      case h_2 => cases hs
      rename_i hck
      injection hs with hs; subst hs
      exact ok_toBytes T H hn hd hi hj h1 h2 hck ho ha
    · cases hs
  · rename_i fn x y ho; injection hs with hs; subst hs; exact ok_mkfn H hd ho ha
  · rename_i t ho; injection hs with hs; subst hs; exact ok_mkmap H hn hd ho ha
  · rename_i t l c ho
    split at hs
    case h_2 => cases hs
    rename_i el j hse
    obtain ⟨i, hi, hds, hj⟩ := sliceElem_ok hse
    split at hs
    case h_2 => cases hs
    rename_i zs hz
    obtain ⟨z, h1, h2⟩ := bind_ofZero hz
    cases hb : (zs.length == j.size && Nat.ble 1 j.bytes)
    · simp [hb] at hs
    rw [hb] at hs
    simp only [cond_true, Option.some.injEq] at hs
    subst hs
    simp only [Bool.and_eq_true, beq_iff_eq] at hb
    exact ok_mkslice T H hn hd hi hds hj h1 h2 hb.1 (Nat.le_of_ble_eq_true hb.2) ho ha
  · rename_i t x lo hi mx ho
    split at hs
    case h_2 => cases hs
    rename_i i hi'
    split at hs
    · rename_i hds; injection hs with hs; subst hs; exact ok_slc_str T H hd hi' hds ho ha
    · rename_i el hds
      split at hs
      case h_2 => cases hs
      rename_i j hj
      injection hs with hs; subst hs
      exact ok_slc_slice T H hd hi' hds hj ho ha
    · cases hs
  · rename_i t x f ho
    split at hs
    case h_2 => cases hs
    rename_i i hi
    split at hs
    case h_2 => cases hs
    rename_i fs hds
    split at hs
    case h_2 => cases hs
    rename_i g hg
    split at hs
    case h_2 => cases hs
    rename_i j hj
    cases hz : (j.size == 0)
    · rw [hz] at hs
      simp only [cond_false, Option.some.injEq] at hs
      subst hs
      exact ok_faddr T H hd hi hds hg hj (by simpa using hz) ho ha
    · simp [hz] at hs
  · rename_i t x f ho
    split at hs
    case h_2 => cases hs
    rename_i i hi
    split at hs
    case h_2 => cases hs
    rename_i fs hds
    split at hs
    case h_2 => cases hs
    rename_i g hg
    split at hs
    case h_2 => cases hs
    rename_i k hk
    injection hs with hs; subst hs
    exact ok_fld T H hd hi hds hg hk ho ha
  · rename_i t x ix ho
    split at hs
    case h_2 => cases hs
    rename_i i hi
    split at hs
    · rename_i el hds
      split at hs
      case h_2 => cases hs
      rename_i j hj
      injection hs with hs; subst hs
      exact ok_iaddr_slice T H hd hi hds hj ho ha
    · rename_i m el hds
      split at hs
      case h_2 => cases hs
      rename_i j hj
      injection hs with hs; subst hs
      exact ok_iaddr_arr T H hd hi hds hj ho ha
    · cases hs
  · rename_i t x ix ho
    split at hs
    case h_2 => cases hs
    rename_i i hi
    split at hs
    · rename_i hds; injection hs with hs; subst hs; exact ok_idx_str T H hd hi hds ho ha
    · rename_i m el hds
      split at hs
      case h_2 => cases hs
      rename_i j k hj hk
      injection hs with hs; subst hs
      exact ok_idx_arr T H hd hi hds hj hk ho ha
    · cases hs
  · rename_i t x ix ok ho
    split at hs
    case h_2 => cases hs
    rename_i i hi
    split at hs
    case h_2 => cases hs
    rename_i kt et hds
    split at hs
    case h_2 => cases hs
    rename_i k j hk hj
    split at hs
    · rename_i cs hz
      split at hs
      case h_2 => cases hs
      rename_i z hzz
      injection hs with hs; subst hs
      refine ok_lookup T G H hd hi hds hk hj hz (fun F w ι => ?_) ho ha
      obtain ⟨h1, h2⟩ := ofVs_ok (F := F) (w := w) (ι := ι) hzz
      exact .agg _ _ _ (by simpa using h1) (fun j u c hu hc => h2 j u c hu (by simpa using hc))
    · rename_i v _ hz
      split at hs
      case h_2 => cases hs
      rename_i z hzz
      injection hs with hs; subst hs
      exact ok_lookup T G H hd hi hds hk hj hz (fun F w ι => ofV_rv hzz) ho ha
    · cases hs
  · rename_i t m ix x ho
    split at hs
    case h_2 => cases hs
    rename_i i hi
    split at hs
    case h_2 => cases hs
    rename_i kt et hds
    split at hs
    case h_2 => cases hs
    rename_i k hk
    injection hs with hs; subst hs
    exact ok_mapup T G H hd hi hds hk (.inl ho) ha
  · rename_i t m ix x ho
    split at hs
    case h_2 => cases hs
    rename_i i hi
    split at hs
    case h_2 => cases hs
    rename_i kt et hds
    split at hs
    case h_2 => cases hs
    rename_i k hk
    injection hs with hs; subst hs
    exact ok_mapup T G H hd hi hds hk (.inr ho) ha
  · rename_i x i ho; injection hs with hs; subst hs; exact ok_ext H hd ho ha
  · rename_i c ho
    split at hs
    · rename_i hc
      split at hs
      case h_2 => cases hs
      rename_i t x ht hx
      split at hs
      case h_2 => cases hs
      rename_i i hi
      split at hs
      · rename_i hds; injection hs with hs; subst hs; exact ok_len T H hd hc ht hx hi (.inl ⟨hds, rfl⟩) ho ha
      · rename_i el hds; injection hs with hs; subst hs; exact ok_len T H hd hc ht hx hi (.inr (.inl ⟨el, hds, rfl⟩)) ho ha
      · rename_i p q hds; injection hs with hs; subst hs; exact ok_len T H hd hc ht hx hi (.inr (.inr (.inl ⟨p, q, hds, rfl⟩))) ho ha
      · rename_i m el hds; injection hs with hs; subst hs; exact ok_len T H hd hc ht hx hi (.inr (.inr (.inr ⟨m, el, hds, rfl⟩))) ho ha
      · cases hs
    · rename_i hc
      split at hs
      case h_2 => cases hs
      rename_i t u s x ht hx
      split at hs
      case h_2 => cases hs
      rename_i el j hse
      obtain ⟨i, hi, hds, hj⟩ := sliceElem_ok hse
      split at hs
      case h_2 => cases hs
      rename_i z hz
      cases hb : (t == u && z.cells.size == j.size && Nat.ble 1 j.size && Nat.ble 1 j.bytes)
      · simp [hb] at hs
      rw [hb] at hs
      simp only [cond_true, Option.some.injEq] at hs
      subst hs
      simp only [Bool.and_eq_true, beq_iff_eq] at hb
      obtain ⟨⟨⟨rfl, hb2⟩, hb3⟩, hb4⟩ := hb
      exact ok_append T H hn hd hc ht hx hi hds hj hz hb2 (Nat.le_of_ble_eq_true hb3) (Nat.le_of_ble_eq_true hb4) ho ha
    · rename_i hc
      split at hs
      case h_2 => cases hs
      rename_i x r hx
      injection hs with hs; subst hs
      exact ok_mm (mx := true) H hd hc hx ho ha
    · rename_i hc
      split at hs
      case h_2 => cases hs
      rename_i x r hx
      injection hs with hs; subst hs
      exact ok_mm (mx := false) H hd hc hx ho ha
    · injection hs with hs; subst hs; simp [aop] at ha
    · injection hs with hs; subst hs; simp [aop] at ha
    · cases hs
  · cases hs

end
end Go.AM

/- AM, part 15: a value with all that it leads to; calls by their mode. -/
namespace Go.AM
noncomputable section
set_option linter.unusedVariables false
set_option linter.unusedSimpArgs false

variable {P : Program} {tt : TypeId → Option TI}
variable {F : Nat → Prop} {ι : Id → Option Nat} {lam : Nat → Nat} {n : Nat} {e : Env} {h : Heap} {a : Act} {w : World}

/-- The heap alone. -/
def HSim (F : Nat → Prop) (ι : Id → Option Nat) (h : Heap) (w : World) : Prop := Sim F ι (fun _ => 0) 0 Env.empty h ⟨#[], []⟩ w
def HOwns (ι : Id → Option Nat) (h : Heap) (b : Nat) : Prop := ∃ i o, h.get i = some o ∧ ι i = some b

theorem HOwns.owns {b : Nat} (H : HOwns ι h b) : Owns ι lam e h b := .inr H
theorem Owns.howns {b : Nat} (H : Owns ι lam Env.empty h b) : HOwns ι h b := by
  rcases H with ⟨s, cs, hs, _⟩ | H
  · rw [Env.get_empty] at hs; cases hs
  · exact H

theorem Sim.heapS (H : Sim F ι lam n e h a w) : HSim F ι h w :=
  ⟨H.fin, H.iot, (fun _ _ hh => by rw [Env.get_empty] at hh; cases hh), (fun _ _ hh => by rw [Env.get_empty] at hh; cases hh), H.obj, (fun _ _ _ _ hh => by rw [Env.get_empty] at hh; cases hh), H.hh, (fun _ _ _ _ hh => by rw [Env.get_empty] at hh; cases hh), rfl, Nat.zero_le _⟩

/-- What has turned, and what is new. -/
structure Grow (own : Nat → Prop) (F : Nat → Prop) (ι : Id → Option Nat) (w : World) (own' : Nat → Prop) (F' : Nat → Prop) (ι' : Id → Option Nat) (w' : World) : Prop where
  kept : Kept own w w'
  io : ∀ i b, ι i = some b → ι' i = some b
  fr : ∀ b, F b → F' b
  new : ∀ b, F' b → F b ∨ w.heap.size ≤ b
  own : ∀ b, own' b → own b ∨ w.heap.size ≤ b

theorem Grow.refl (own : Nat → Prop) (F : Nat → Prop) (ι : Id → Option Nat) (w : World) : Grow own F ι w own F ι w :=
  ⟨.refl _ _, fun _ _ h => h, fun _ h => h, fun _ h => .inl h, fun _ h => .inl h⟩

theorem Grow.trans {own F ι w own1 F1 ι1 w1 own2 F2 ι2 w2} (h : Grow own F ι w own1 F1 ι1 w1) (k : Grow own1 F1 ι1 w1 own2 F2 ι2 w2) : Grow own F ι w own2 F2 ι2 w2 where
  kept := h.kept.trans k.kept (fun b hb ho => (h.own b ho).resolve_right (by omega))
  io := fun i b hi => k.io i b (h.io i b hi)
  fr := fun b hb => k.fr b (h.fr b hb)
  new := fun b hb => by
    rcases k.new b hb with h1 | h1
    · exact h.new b h1
    · exact .inr (Nat.le_trans h.kept.size h1)
  own := fun b hb => by
    rcases k.own b hb with h1 | h1
    · exact h.own b h1
    · exact .inr (Nat.le_trans h.kept.size h1)

theorem Grow.own_le {own own' own'' : Nat → Prop} {F ι w F' ι' w'} (h : Grow own F ι w own' F' ι' w') (hh : ∀ b, own'' b → own' b) : Grow own F ι w own'' F' ι' w' :=
  ⟨h.kept, h.io, h.fr, h.new, fun b hb => h.own b (hh b hb)⟩

/-! ### values that lead nowhere -/
theorem stills_get {cs : List AV} (h : stills cs = true) : ∀ (j : Nat) (u : AV), cs[j]? = some u → u.still = true := by
  induction cs with
  | nil => intro j u hu; simp at hu
  | cons x r ih =>
    simp only [stills, Bool.and_eq_true] at h
    intro j u hu
    cases j with
    | zero => simp at hu; exact hu ▸ h.1
    | succ j => simp at hu; exact ih h.2 j u hu
theorem scals_get {cs : List AV} (h : scals cs = true) : ∀ (j : Nat) (u : AV), cs[j]? = some u → u.scal = true := by
  induction cs with
  | nil => intro j u hu; simp at hu
  | cons x r ih =>
    simp only [scals, Bool.and_eq_true] at h
    intro j u hu
    cases j with
    | zero => simp at hu; exact hu ▸ h.1
    | succ j => simp at hu; exact ih h.2 j u hu

theorem still_any {x : AV} {c : Value} (H : RV F w ι x c) : x.still = true → ∀ ι' : Id → Option Nat, RV F w ι' x c := by
  induction H with
  | junk => intros; exact .junk _ _
  | bool => intros; exact .bool _ _
  | int => intros; exact .int _ _ _
  | str => intros; exact .str _ _
  | nilp => intros; exact .nilp _
  | ptr => intro hs; simp [AV.still] at hs
  | pptr ι cs off b base cv hb hc hu ih => intro _ ι'; exact .pptr _ cs off b base cv hb hc hu
  | nils => intros; exact .nils _
  | slice => intro hs; simp [AV.still] at hs
  | pslice ι cs len esz clip a cap b base cv h1 h2 h3 h4 h5 h6 h7 ih => intro _ ι'; exact .pslice _ cs len esz clip a cap b base cv h1 h2 h3 h4 h5 h6 h7
  | nilm => intros; exact .nilm _
  | map => intro hs; simp [AV.still] at hs
  | pmap ι ks vs b es clock h1 h2 h3 h4 h5 h6 => intro _ ι'; exact .pmap _ ks vs b es clock h1 h2 h3 h4 h5 h6
  | nilf => intros; exact .nilf _
  | func ι fn x y xs ys h1 h2 _ _ ih1 ih2 =>
    intro hs ι'
    simp only [AV.still, Bool.and_eq_true] at hs
    exact .func _ fn x y xs ys h1 h2 (fun j u c hu hc => ih1 j u c hu hc (stills_get hs.1 j u hu) ι') (fun j u c hu hc => ih2 j u c hu hc (stills_get hs.2 j u hu) ι')
  | agg ι cs vs h1 _ ih => intro hs ι'; exact .agg _ cs vs h1 (fun j u c hu hc => ih j u c hu hc (stills_get (by simpa [AV.still] using hs) j u hu) ι')
  | tuple ι cs vs h1 _ ih => intro hs ι'; exact .tuple _ cs vs h1 (fun j u c hu hc => ih j u c hu hc (stills_get (by simpa [AV.still] using hs) j u hu) ι')

theorem scal_any {x : AV} {c : Value} (H : RV F w ι x c) : x.scal = true → ∀ (F' : Nat → Prop) (w' : World) (ι' : Id → Option Nat), RV F' w' ι' x c := by
  induction H with
  | junk => intro hs; simp [AV.scal] at hs
  | bool => intros; exact .bool _ _
  | int => intros; exact .int _ _ _
  | str => intros; exact .str _ _
  | nilp => intros; exact .nilp _
  | ptr => intro hs; simp [AV.scal] at hs
  | pptr => intro hs; simp [AV.scal] at hs
  | nils => intros; exact .nils _
  | slice => intro hs; simp [AV.scal] at hs
  | pslice => intro hs; simp [AV.scal] at hs
  | nilm => intros; exact .nilm _
  | map => intro hs; simp [AV.scal] at hs
  | pmap => intro hs; simp [AV.scal] at hs
  | nilf => intros; exact .nilf _
  | func => intro hs; simp [AV.scal] at hs
  | agg ι cs vs h1 _ ih => intro hs F' w' ι'; exact .agg _ cs vs h1 (fun j u c hu hc => ih j u c hu hc (scals_get (by simpa [AV.scal] using hs) j u hu) F' w' ι')
  | tuple ι cs vs h1 _ ih => intro hs F' w' ι'; exact .tuple _ cs vs h1 (fun j u c hu hc => ih j u c hu hc (scals_get (by simpa [AV.scal] using hs) j u hu) F' w' ι')

/-! ### what nobody writes any more -/
theorem mapO_ok {f : AV → Option AV} : ∀ {cs l : List AV}, mapO f cs = some l → l.length = cs.length ∧ ∀ (j : Nat) (u : AV), l[j]? = some u → ∃ x, cs[j]? = some x ∧ f x = some u := by
  intro cs
  induction cs with
  | nil => intro l h; simp only [mapO, Option.some.injEq] at h; subst h; exact ⟨rfl, fun j u hu => by simp at hu⟩
  | cons x r ih =>
    intro l h
    simp only [mapO] at h
    split at h
    case h_2 => cases h
    rename_i b t hb ht
    injection h with h
    subst h
    obtain ⟨h1, h2⟩ := ih ht
    refine ⟨by simp [h1], fun j u hu => ?_⟩
    cases j with
    | zero => simp at hu; exact ⟨x, by simp, hu ▸ hb⟩
    | succ j => simp at hu; obtain ⟨y, hy1, hy2⟩ := h2 j u hu; exact ⟨y, by simpa using hy1, hy2⟩

/-- Also what the heap's objects are. -/
def Froze (F : Nat → Prop) (ι : Id → Option Nat) (h : Heap) (b : Nat) : Prop := F b ∨ HOwns ι h b

theorem sub_get {cs l : List AV} {off n : Nat} (h : sub cs off n = some l) : l.length = n ∧ off + n ≤ cs.length ∧ ∀ (j : Nat) (u : AV), l[j]? = some u → cs[off + j]? = some u := by
  unfold sub at h
  cases hb : Nat.ble (off + n) cs.length
  · simp [hb] at h
  rw [hb] at h
  simp only [cond_true, Option.some.injEq] at h
  have hle := Nat.le_of_ble_eq_true hb
  subst h
  refine ⟨by simp; omega, hle, fun j u hu => ?_⟩
  rw [List.getElem?_take] at hu
  split at hu
  · rw [List.getElem?_drop] at hu; exact hu
  · cases hu

theorem pur_ok (H : HSim F ι h w) : ∀ (k : Nat) {x y : AV} {c : Value}, pur k h x = some y → RV F w ι x c → RV (Froze F ι h) w ι0 y c := by
  intro k
  induction k with
  | zero => intro x y c hp; cases hp
  | succ k ih =>
    intro x y c hp hx
    have row : ∀ {cs l : List AV} {vs : Nat → Option Value}, mapO (pur k h) cs = some l → (∀ (j : Nat) (u : AV) (c : Value), cs[j]? = some u → vs j = some c → RV F w ι u c) →
        ∀ (j : Nat) (u : AV) (c : Value), l[j]? = some u → vs j = some c → RV (Froze F ι h) w ι0 u c := by
      intro cs l vs hm hr j u c hu hc
      obtain ⟨x, h1, h2⟩ := (mapO_ok hm).2 j u hu
      exact ih h2 (hr j x c h1 hc)
    cases x with
    | ptr o off =>
      simp only [pur] at hp
      split at hp
      case h_2 => cases hp
      rename_i cs ho
      split at hp
      case h_2 => cases hp
      rename_i l hl
      injection hp with hp; subst hp
      obtain ⟨b, rfl, hb⟩ := hx.ptr_inv
      obtain ⟨b', hb', _, arr, ety, lo, hi, h1, h2, h3, h4⟩ := H.obj o _ ho
      rw [hb] at hb'; injection hb' with hb'; subst hb'
      have hlen := (mapO_ok hl).1
      have hget : ∀ (j : Nat) (u : AV), l[j]? = some u → arr[j]? = some (arr.getD j undef) := by
        intro j u hu
        have : j < l.length := (List.getElem?_eq_some_iff.1 hu).1
        have : j < arr.size := by omega
        simp [Array.getD, this]
      have hbase : (⟨b, off, none⟩ : Addr) = ⟨b, 0 + off, none⟩ := by rw [Nat.zero_add]
      rw [hbase]
      refine .pptr _ l off b 0 (fun j => arr.getD j undef) (.inr ⟨o, _, ho, hb⟩) (fun j u hu => ?_) (fun j u hu => ?_)
      · simp only [World.cell?, h1, Nat.zero_add]
        exact hget j u hu
      · exact row (vs := fun j => arr[j]?) hl h4 j u _ hu (hget j u hu)
    | slice o co len esz clip =>
      simp only [pur] at hp
      split at hp
      case h_2 => cases hp
      rename_i cs ho
      split at hp
      case h_2 => cases hp
      rename_i s hs
      split at hp
      case h_2 => cases hp
      rename_i l hl
      injection hp with hp; subst hp
      obtain ⟨b, cap, arr', ety', fz', rfl, hb, hh, hc1, hc2, hc3, hc4⟩ := hx.slice_inv
      obtain ⟨b', hb', _, arr, ety, lo, hi, h1, h2, h3, h4⟩ := H.obj o _ ho
      rw [hb] at hb'; injection hb' with hb'; subst hb'
      obtain ⟨hs1, hs2, hs3⟩ := sub_get hs
      have hlen := (mapO_ok hl).1
      have hget : ∀ (j : Nat) (u : AV), l[j]? = some u → arr[co + j]? = some (arr.getD (co + j) undef) := by
        intro j u hu
        have : j < l.length := (List.getElem?_eq_some_iff.1 hu).1
        have : co + j < arr.size := by omega
        simp [Array.getD, this]
      refine .pslice _ l len esz clip _ cap b co (fun j => arr.getD (co + j) undef) hc2 hc3 hc4 (fun _ => ⟨rfl, .inr ⟨o, _, ho, hb⟩⟩) (fun hne => ?_) (fun j u hu => ?_) (fun j u hu => ?_)
      · rcases Nat.eq_zero_or_pos len with h0 | h0
        · subst h0
          exfalso
          apply hne
          apply List.length_eq_zero_iff.1
          omega
        · exact h0
      · simp only [World.cell?, h1]
        exact hget j u hu
      · obtain ⟨x, hx1, hx2⟩ := (mapO_ok hl).2 j u hu
        exact ih hx2 (h4 _ x _ (hs3 j x hx1) (hget j u hu))
    | nils =>
      simp only [pur, Option.some.injEq] at hp
      subst hp
      rw [hx.nils_inv]
      exact .pslice _ [] 0 0 true none 0 0 0 (fun _ => undef) (Nat.le_refl _) (Nat.zero_le _) (fun _ => rfl) (fun h => absurd h (Nat.lt_irrefl _)) (fun h => absurd rfl h) (fun j u hu => by simp at hu) (fun j u hu => by simp at hu)
    | map o =>
      simp only [pur] at hp
      split at hp
      case h_2 => cases hp
      rename_i ks vs born clock ho
      split at hp
      case h_2 => cases hp
      rename_i l l' hl hl'
      injection hp with hp; subst hp
      obtain ⟨b, rfl, hb⟩ := hx.map_inv
      obtain ⟨b', hb', _, es, h1, h2, h3, h4, h5, h6, h7⟩ := H.obj o _ ho
      rw [hb] at hb'; injection hb' with hb'; subst hb'
      have e1 := (mapO_ok hl).1
      have e2 := (mapO_ok hl').1
      refine .pmap _ l l' b es clock (.inr ⟨o, _, ho, hb⟩) h1 (by omega) (by omega) (fun j e u he hu => ?_) (fun j e u he hu => ?_)
      · obtain ⟨x, hx1, hx2⟩ := (mapO_ok hl).2 j u hu
        exact ih hx2 (h5 j e x he hx1)
      · obtain ⟨x, hx1, hx2⟩ := (mapO_ok hl').2 j u hu
        exact ih hx2 (h6 j e x he hx1)
    | agg cs =>
      simp only [pur] at hp
      split at hp
      case h_2 => cases hp
      rename_i l hl
      injection hp with hp; subst hp
      obtain ⟨vs, rfl, h1, h2⟩ := hx.agg_inv
      exact .agg _ l vs (by rw [(mapO_ok hl).1]; exact h1) (fun j u c hu hc => row (vs := fun j => vs[j]?) hl h2 j u c hu hc)
    | tuple cs =>
      simp only [pur] at hp
      split at hp
      case h_2 => cases hp
      rename_i l hl
      injection hp with hp; subst hp
      obtain ⟨vs, rfl, h1, h2⟩ := hx.tuple_inv
      exact .tuple _ l vs (by rw [(mapO_ok hl).1]; exact h1) (fun j u c hu hc => row (vs := fun j => vs[j]?) hl h2 j u c hu hc)
    | func fn x y =>
      simp only [pur] at hp
      split at hp
      case h_2 => cases hp
      rename_i l l' hl hl'
      injection hp with hp; subst hp
      obtain ⟨xs, ys, rfl, h1, h2, h3, h4⟩ := hx.func_inv
      exact .func _ fn l l' xs ys (by rw [(mapO_ok hl).1]; exact h1) (by rw [(mapO_ok hl').1]; exact h2) (fun j u c hu hc => row (vs := fun j => xs[j]?) hl h3 j u c hu hc)
        (fun j u c hu hc => row (vs := fun j => ys[j]?) hl' h4 j u c hu hc)
    | junk =>
      simp only [pur, Option.some.injEq] at hp
      subst hp
      exact .junk _ _
    | _ =>
      simp only [pur, Option.some.injEq] at hp
      subst hp
      exact (still_any hx (by simp [AV.still]) ι0).mono (fun b hb => .inl hb) (fun _ _ => rfl) (fun _ _ h => by cases h) (fun _ _ h => by cases h)

theorem purs_ok (H : HSim F ι h w) {k : Nat} {cs l : List AV} {vs : Array Value} (hp : mapO (pur k h) cs = some l) (hv : RVs F w ι cs vs) : RVs (Froze F ι h) w ι0 l vs := by
  refine ⟨by rw [(mapO_ok hp).1]; exact hv.1, fun j u c hu hc => ?_⟩
  obtain ⟨x, h1, h2⟩ := (mapO_ok hp).2 j u hu
  exact pur_ok H k h2 (hv.2 j x c h1 hc)
end
end Go.AM

/- AM, part 16: calls by their mode. -/
namespace Go.AM
noncomputable section
set_option linter.unusedVariables false
set_option linter.unusedSimpArgs false

variable {P : Program} {tt : TypeId → Option TI}
variable {F : Nat → Prop} {ι : Id → Option Nat} {lam : Nat → Nat} {n : Nat} {e : Env} {h : Heap} {a : Act} {w : World}

def Ids (ι : Id → Option Nat) (N : Nat) : Prop := ∀ i b, ι i = some b → i.1 < N

/-- What a call comes to. -/
def CallPost (F : Nat → Prop) (ι : Id → Option Nat) (h : Heap) (w : World) (keep : Id → Prop) (r : AV) (h' : Heap) (N' : Nat) (e : Ending) (w' : World) : Prop :=
  ∃ c F' ι', e = .returned c ∧ RV F' w' ι' r c ∧ HSim F' ι' h' w' ∧ Grow (HOwns ι h) F ι w (HOwns ι' h') F' ι' w' ∧ Ids ι' N' ∧ ∀ i, keep i → ι' i = ι i

def CallSound (P : Program) (call : CallF) : Prop :=
  ∀ f args h N r h' N', call f args h N = some (r, h', N') → ∀ F ι w (cargs : Array Value), HSim F ι h w → Ids ι N → RVs F w ι args cargs →
    Calls P f cargs w (fun e w' => N ≤ N' ∧ CallPost F ι h w (fun i => i.1 < N) r h' N' e w')

theorem Heap.get_empty (i : Id) : Heap.empty.get i = none := by simp [Heap.get, Heap.empty, Tr.get_leaf]
theorem HSim.bare {F' : Nat → Prop} (hf : ∀ b, F' b → b < w.heap.size) : HSim F' ι0 Heap.empty w :=
  ⟨hf, (fun _ _ hh => by cases hh), (fun _ _ hh => by rw [Env.get_empty] at hh; cases hh), (fun _ _ hh => by rw [Env.get_empty] at hh; cases hh), (fun _ _ hh => by rw [Heap.get_empty] at hh; cases hh), (fun _ _ _ _ hh => by rw [Env.get_empty] at hh; cases hh), (fun _ _ _ _ _ hh => by rw [Heap.get_empty] at hh; cases hh), (fun _ _ _ _ hh => by rw [Env.get_empty] at hh; cases hh), rfl, Nat.zero_le _⟩
theorem HOwns.nothing {b : Nat} (H : HOwns ι0 Heap.empty b) : False := by
  obtain ⟨i, o, hh, _⟩ := H
  simp [Heap.get, Heap.empty, Tr.get_leaf] at hh
theorem Ids.bare : Ids ι0 0 := fun _ _ h => by cases h

/-- What others do leaves the heap's objects. -/
theorem HSim.away (H : HSim F ι h w) {own F' : Nat → Prop} {w' : World} {ι' : Id → Option Nat} (K : Kept own w w') (hown : ∀ b, HOwns ι h b → ¬ own b) (hF : ∀ b, F b → ¬ own b) (fr : ∀ b, F b → F' b)
    (new : ∀ b, F' b → F b ∨ w.heap.size ≤ b) (fin : ∀ b, F' b → b < w'.heap.size) (hι : ∀ i b, ι i = some b → ι' i = some b) (hiot : ∀ i b, ι' i = some b → b < w'.heap.size) : HSim F' ι' h w' :=
  Sim.move H fr fin
    (fun b hb hf => by
      rcases new b hf with h1 | h1
      · exact H.notF h1 hb
      · have := H.owns_lt hb; omega)
    (fun b hb => K.same b (H.fin b hb) (hF b hb)) (fun b hb => K.same b (H.owns_lt hb) (hown b hb.howns)) hι hiot (fun i b hi => K.shape b (H.iot i b hi)) K.size

theorem callM_ok {call : CallF} (C : CallSound P call) {m : Mode} {nid : Id} {f : FuncId} {args : List AV} {N : Nat} {r : AV} {h' : Heap} {N' : Nat} (hc : callM call m nid f args h N = some (r, h', N')) :
    ∀ (F : Nat → Prop) (ι : Id → Option Nat) (w : World) (cargs : Array Value), HSim F ι h w → Ids ι N → nid.1 < N → ι nid = none → RVs F w ι args cargs →
      Calls P f cargs w (fun e w' => N ≤ N' ∧ CallPost F ι h w (fun i => i.1 < N ∧ i ≠ nid) r h' N' e w') := by
  cases m with
  | eff =>
    have h2 := C _ _ _ _ _ _ _ hc
    refine fun F ι w cargs H hid _ _ hv => (h2 F ι w cargs H hid hv).mono ?_
    rintro e w' ⟨h1, c, F', ι', he, hr, hs, hg, hid', hk⟩
    exact ⟨h1, c, F', ι', he, hr, hs, hg, hid', fun i hi => hk i hi.1⟩
  | pure =>
    simp only [callM] at hc
    cases hst : stills args
    · simp [hst] at hc
    rw [hst] at hc
    simp only [cond_true] at hc
    split at hc
    case h_2 => cases hc
    rename_i r1 h1 N1 hcall
    split at hc
    case h_2 => cases hc
    rename_i y hp
    simp only [Option.some.injEq, Prod.mk.injEq] at hc
    obtain ⟨rfl, rfl, rfl⟩ := hc
    have h2 := C _ _ _ _ _ _ _ hcall
    refine fun F ι w cargs H hid _ _ hv => (h2 F ι0 w cargs (.bare H.fin) .bare ⟨hv.1, fun j u c hu hc => still_any (hv.2 j u c hu hc) (stills_get hst j u hu) ι0⟩).mono ?_
    rintro e w' ⟨_, c, F1, ι1, he, hr, hs, hg, hid', hk⟩
    have hnew : ∀ b, Froze F1 ι1 h1 b → F b ∨ w.heap.size ≤ b := fun b hb => by
      rcases hb with hb | hb
      · exact hg.new b hb
      · exact .inr ((hg.own b hb).resolve_left (fun k => k.nothing))
    have hfin : ∀ b, Froze F1 ι1 h1 b → b < w'.heap.size := fun b hb => by
      rcases hb with hb | hb
      · exact hs.fin b hb
      · obtain ⟨i, o, _, hi⟩ := hb; exact hs.iot i b hi
    refine ⟨Nat.le_refl _, c, Froze F1 ι1 h1, ι, he, (pur_ok hs _ hp hr).up, H.away hg.kept (fun b _ k => k.nothing) (fun b _ k => k.nothing) (fun b hb => .inl (hg.fr b hb)) hnew hfin (fun _ _ h => h)
      (fun i b hi => Nat.lt_of_lt_of_le (H.iot i b hi) hg.kept.size), ⟨hg.kept.weaken (fun b _ k => k.nothing.elim), fun _ _ h => h, fun b hb => .inl (hg.fr b hb), hnew, fun b hb => .inl hb⟩, hid, fun i _ => rfl⟩
  | view =>
    simp only [callM] at hc
    split at hc
    case h_2 => cases hc
    rename_i l hl
    split at hc
    case h_2 => cases hc
    rename_i r1 h1 N1 hcall
    split at hc
    case h_2 => cases hc
    rename_i y hp
    cases hsc : y.scal
    · simp [hsc] at hc
    rw [hsc] at hc
    simp only [cond_true, Option.some.injEq, Prod.mk.injEq] at hc
    obtain ⟨rfl, rfl, rfl⟩ := hc
    have h2 := C _ _ _ _ _ _ _ hcall
    refine fun F ι w cargs H hid _ _ hv => (h2 (Froze F ι h) ι0 w cargs (.bare (fun b hb => ?_)) .bare (purs_ok H hl hv)).mono ?_
    · rcases hb with hb | hb
      · exact H.fin b hb
      · obtain ⟨i, o, _, hi⟩ := hb; exact H.iot i b hi
    rintro e w' ⟨_, c, F1, ι1, he, hr, hs, hg, hid', hk⟩
    refine ⟨Nat.le_refl _, c, F, ι, he, scal_any (pur_ok hs _ hp hr) hsc F w' ι, H.away hg.kept (fun b _ k => k.nothing) (fun b _ k => k.nothing) (fun b hb => hb) (fun b hb => .inl hb)
      (fun b hb => Nat.lt_of_lt_of_le (H.fin b hb) hg.kept.size) (fun _ _ h => h) (fun i b hi => Nat.lt_of_lt_of_le (H.iot i b hi) hg.kept.size),
      ⟨hg.kept.weaken (fun b _ k => k.nothing.elim), fun _ _ h => h, fun b hb => hb, fun b hb => .inl hb, fun b hb => .inl hb⟩, hid, fun i _ => rfl⟩
  | fresh =>
    simp only [callM] at hc
    cases hst : stills args
    · simp [hst] at hc
    rw [hst] at hc
    simp only [cond_true] at hc
    split at hc
    · rename_i h1 N1 hcall
      simp only [Option.some.injEq, Prod.mk.injEq] at hc
      obtain ⟨rfl, rfl, rfl⟩ := hc
      have h2 := C _ _ _ _ _ _ _ hcall
      refine fun F ι w cargs H hid _ _ hv => (h2 F ι0 w cargs (.bare H.fin) .bare ⟨hv.1, fun j u c hu hc => still_any (hv.2 j u c hu hc) (stills_get hst j u hu) ι0⟩).mono ?_
      rintro e w' ⟨_, c, F1, ι1, he, hr, hs, hg, hid', hk⟩
      rw [hr.nils_inv] at he
      refine ⟨Nat.le_refl _, _, F1, ι, he, .nils _, H.away hg.kept (fun b _ k => k.nothing) (fun b _ k => k.nothing) hg.fr hg.new hs.fin (fun _ _ h => h)
        (fun i b hi => Nat.lt_of_lt_of_le (H.iot i b hi) hg.kept.size), ⟨hg.kept.weaken (fun b _ k => k.nothing.elim), fun _ _ h => h, hg.fr, hg.new, fun b hb => .inl hb⟩, hid, fun i _ => rfl⟩
    · rename_i o len esz clip h1 N1 hcall
      split at hc
      case h_2 => cases hc
      rename_i cs ho
      split at hc
      case h_2 => cases hc
      rename_i l hl
      simp only [Option.some.injEq, Prod.mk.injEq] at hc
      obtain ⟨rfl, rfl, rfl⟩ := hc
      have h2 := C _ _ _ _ _ _ _ hcall
      refine fun F ι w cargs H hid hlt hn hv => (h2 F ι0 w cargs (.bare H.fin) .bare ⟨hv.1, fun j u c hu hc => still_any (hv.2 j u c hu hc) (stills_get hst j u hu) ι0⟩).mono ?_
      rintro e w' ⟨_, c, F1, ι1, he, hr, hs, hg, hid', hk⟩
      obtain ⟨b, cap, arr', ety', fz', rfl, hb, hh, hc1, hc2, hc3, hc4⟩ := hr.slice_inv
      obtain ⟨b', hb', hnF, arr, ety, lo, hi, g1, g2, g3, g4⟩ := hs.obj o _ ho
      rw [hb] at hb'; injection hb' with hb'; subst hb'
      have hsd : HSim F1 ι1 (h1.del o) w' := Sim.del hs o
      have hdel : ∀ {q : Nat}, HOwns ι1 (h1.del o) q → HOwns ι1 h1 q ∧ q ≠ b := by
        rintro q ⟨i, p, hp, hi⟩
        rw [Heap.get_del] at hp
        split at hp
        · cases hp
        · rename_i hne
          refine ⟨⟨i, p, hp, hi⟩, fun hq => hne ?_⟩
          subst hq
          exact hs.hh i o p _ _ hp ho hi hb
      have hnew : ∀ q, Froze F1 ι1 (h1.del o) q → F q ∨ w.heap.size ≤ q := fun q hq => by
        rcases hq with hq | hq
        · exact hg.new q hq
        · exact .inr ((hg.own q (hdel hq).1).resolve_left (fun k => k.nothing))
      have hfin : ∀ q, Froze F1 ι1 (h1.del o) q → q < w'.heap.size := fun q hq => by
        rcases hq with hq | hq
        · exact hs.fin q hq
        · obtain ⟨i, o, _, hi⟩ := hq; exact hs.iot i q hi
      have hbn : w.heap.size ≤ b := (hg.own b ⟨o, _, ho, hb⟩).resolve_left (fun k => k.nothing)
      have H1 : HSim (Froze F1 ι1 (h1.del o)) (ext ι nid b) h w' := H.away hg.kept (fun b _ k => k.nothing) (fun b _ k => k.nothing) (fun q hq => .inl (hg.fr q hq)) hnew hfin (ext_le hn _) (fun i q hi => by
        by_cases hin : i = nid
        · subst hin; rw [ext_self] at hi; injection hi with hi; subst hi; exact hs.iot o b hb
        · rw [ext_ne ι _ hin] at hi; exact Nat.lt_of_lt_of_le (H.iot i q hi) hg.kept.size)
      have hro : RO (Froze F1 ι1 (h1.del o)) w' (ext ι nid b) (.cells l) b := by
        refine ⟨arr, ety, lo, hi, g1, g2, by rw [(mapO_ok hl).1]; exact g3, fun j u c hu hc => ?_⟩
        obtain ⟨x, h1, h2⟩ := (mapO_ok hl).2 j u hu
        exact (pur_ok hsd _ h2 (g4 j x c h1 hc)).up
      refine ⟨Nat.le_refl _, _, Froze F1 ι1 (h1.del o), ext ι nid b, he, .slice _ _ _ _ _ _ _ _ _ _ _ (ext_self _ _ _) hh hc1 hc2 hc3 hc4, ?_,
        ⟨hg.kept.weaken (fun b _ k => k.nothing.elim), ext_le hn _, fun b hb => .inl (hg.fr b hb), hnew, ?_⟩, ?_, fun i hi => ext_ne ι _ hi.2⟩
      · refine Sim.obj_put H1 (ext_self _ _ _) (fun hf => ?_) hro (fun j p hj hjb => ?_) (fun _ _ hh => by rw [Env.get_empty] at hh; cases hh)
        · rcases hf with hf | hf
          · exact hnF hf
          · exact (hdel hf).2 rfl
        · by_cases hjn : j = nid
          · exact hjn
          · rw [ext_ne ι _ hjn] at hjb
            have := H.iot j b hjb
            omega
      · rintro q ⟨i, p, hp, hi⟩
        by_cases hin : i = nid
        · subst hin; rw [ext_self] at hi; injection hi with hi; subst hi; exact .inr hbn
        · rw [Heap.get_put, if_neg hin] at hp
          rw [ext_ne ι _ hin] at hi
          exact .inl ⟨i, p, hp, hi⟩
      · intro i q hi
        by_cases hin : i = nid
        · subst hin; exact hlt
        · rw [ext_ne ι _ hin] at hi; exact hid i q hi
    · cases hc
  | vfresh =>
    simp only [callM] at hc
    split at hc
    case h_2 => cases hc
    rename_i la hla
    have hfz : ∀ {F : Nat → Prop} {ι : Id → Option Nat} {w : World}, HSim F ι h w → ∀ b, Froze F ι h b → b < w.heap.size := by
      intro F ι w H b hb
      rcases hb with hb | hb
      · exact H.fin b hb
      · obtain ⟨i, o, _, hi⟩ := hb; exact H.iot i b hi
    split at hc
    · rename_i h1 N1 hcall
      simp only [Option.some.injEq, Prod.mk.injEq] at hc
      obtain ⟨rfl, rfl, rfl⟩ := hc
      have h2 := C _ _ _ _ _ _ _ hcall
      refine fun F ι w cargs H hid _ _ hv => (h2 (Froze F ι h) ι0 w cargs (.bare (hfz H)) .bare (purs_ok H hla hv)).mono ?_
      rintro e w' ⟨_, c, F1, ι1, he, hr, hs, hg, hid', hk⟩
      rw [hr.nils_inv] at he
      refine ⟨Nat.le_refl _, _, F, ι, he, .nils _, H.away hg.kept (fun b _ k => k.nothing) (fun b _ k => k.nothing) (fun b hb => hb) (fun b hb => .inl hb) (fun b hb => Nat.lt_of_lt_of_le (H.fin b hb) hg.kept.size) (fun _ _ h => h)
        (fun i b hi => Nat.lt_of_lt_of_le (H.iot i b hi) hg.kept.size), ⟨hg.kept.weaken (fun b _ k => k.nothing.elim), fun _ _ h => h, fun b hb => hb, fun b hb => .inl hb, fun b hb => .inl hb⟩, hid, fun i _ => rfl⟩
    · rename_i o len esz clip h1 N1 hcall
      split at hc
      case h_2 => cases hc
      rename_i cs ho
      split at hc
      case h_2 => cases hc
      rename_i l hl
      cases hsc : scals l
      · rw [hsc] at hc; cases hc
      rw [hsc] at hc
      simp only [cond_true, Option.some.injEq, Prod.mk.injEq] at hc
      obtain ⟨rfl, rfl, rfl⟩ := hc
      have h2 := C _ _ _ _ _ _ _ hcall
      refine fun F ι w cargs H hid hlt hn hv => (h2 (Froze F ι h) ι0 w cargs (.bare (hfz H)) .bare (purs_ok H hla hv)).mono ?_
      rintro e w' ⟨_, c, F1, ι1, he, hr, hs, hg, hid', hk⟩
      obtain ⟨b, cap, arr', ety', fz', rfl, hb, hh, hc1, hc2, hc3, hc4⟩ := hr.slice_inv
      obtain ⟨b', hb', hnF, arr, ety, lo, hi, g1, g2, g3, g4⟩ := hs.obj o _ ho
      rw [hb] at hb'; injection hb' with hb'; subst hb'
      have hsd : HSim F1 ι1 (h1.del o) w' := Sim.del hs o
      have hbn : w.heap.size ≤ b := (hg.own b ⟨o, _, ho, hb⟩).resolve_left (fun k => k.nothing)
      have hnFb : ¬ F b := fun hf => by have := H.fin b hf; omega
      have H1 : HSim F (ext ι nid b) h w' := H.away hg.kept (fun b _ k => k.nothing) (fun b _ k => k.nothing) (fun b hb => hb) (fun b hb => .inl hb) (fun b hb => Nat.lt_of_lt_of_le (H.fin b hb) hg.kept.size) (ext_le hn _) (fun i q hi => by
        by_cases hin : i = nid
        · subst hin; rw [ext_self] at hi; injection hi with hi; subst hi; exact hs.iot o b hb
        · rw [ext_ne ι _ hin] at hi; exact Nat.lt_of_lt_of_le (H.iot i q hi) hg.kept.size)
      have hro : RO F w' (ext ι nid b) (.cells l) b := by
        refine ⟨arr, ety, lo, hi, g1, g2, by rw [(mapO_ok hl).1]; exact g3, fun j u c hu hc => ?_⟩
        obtain ⟨x, h1, h2⟩ := (mapO_ok hl).2 j u hu
        exact scal_any (pur_ok hsd _ h2 (g4 j x c h1 hc)) (scals_get hsc j u hu) _ _ _
      refine ⟨Nat.le_refl _, _, F, ext ι nid b, he, .slice _ _ _ _ _ _ _ _ _ _ _ (ext_self _ _ _) hh hc1 hc2 hc3 hc4, ?_,
        ⟨hg.kept.weaken (fun b _ k => k.nothing.elim), ext_le hn _, fun b hb => hb, fun b hb => .inl hb, ?_⟩, ?_, fun i hi => ext_ne ι _ hi.2⟩
      · refine Sim.obj_put H1 (ext_self _ _ _) hnFb hro (fun j p hj hjb => ?_) (fun _ _ hh => by rw [Env.get_empty] at hh; cases hh)
        by_cases hjn : j = nid
        · exact hjn
        · rw [ext_ne ι _ hjn] at hjb
          have := H.iot j b hjb
          omega
      · rintro q ⟨i, p, hp, hi⟩
        by_cases hin : i = nid
        · subst hin; rw [ext_self] at hi; injection hi with hi; subst hi; exact .inr hbn
        · rw [Heap.get_put, if_neg hin] at hp
          rw [ext_ne ι _ hin] at hi
          exact .inl ⟨i, p, hp, hi⟩
      · intro i q hi
        by_cases hin : i = nid
        · subst hin; exact hlt
        · rw [ext_ne ι _ hin] at hi; exact hid i q hi
    · cases hc
end
end Go.AM

/- AM, part 17: one operation of a region. -/
namespace Go.AM
noncomputable section
set_option linter.unusedVariables false
set_option linter.unusedSimpArgs false

variable {P : Program} {tt : TypeId → Option TI}
variable {F : Nat → Prop} {ι : Id → Option Nat} {lam : Nat → Nat} {n : Nat} {e : Env} {h : Heap} {a : Act} {w : World}

/-- A function with a body of Go's. -/
def Known (P : Program) (f : FuncId) : Prop := ∃ fn c, P.funcs[f]? = some fn ∧ (fn.name == "runtime.NumGoroutine") = false ∧ fn.body = some c
def CallKnown (P : Program) (call : CallF) : Prop := ∀ f args h N r, call f args h N = some r → Known P f

theorem callM_known {call : CallF} (C : CallKnown P call) {m : Mode} {nid : Id} {f : FuncId} {args : List AV} {N : Nat} {r : AV × Heap × Nat} (hc : callM call m nid f args h N = some r) : Known P f := by
  cases m with
  | eff => exact C _ _ _ _ _ hc
  | pure =>
    simp only [callM] at hc
    cases hst : stills args
    · simp [hst] at hc
    rw [hst] at hc
    simp only [cond_true] at hc
    split at hc
    case h_2 => cases hc
    rename_i hcall
    exact C _ _ _ _ _ hcall
  | view =>
    simp only [callM] at hc
    split at hc
    case h_2 => cases hc
    split at hc
    case h_2 => cases hc
    rename_i hcall
    exact C _ _ _ _ _ hcall
  | fresh =>
    simp only [callM] at hc
    cases hst : stills args
    · simp [hst] at hc
    rw [hst] at hc
    simp only [cond_true] at hc
    split at hc
    · rename_i hcall
      exact C _ _ _ _ _ hcall
    · rename_i hcall
      exact C _ _ _ _ _ hcall
    · cases hc
  | vfresh =>
    simp only [callM] at hc
    split at hc
    case h_2 => cases hc
    split at hc
    · rename_i hcall
      exact C _ _ _ _ _ hcall
    · rename_i hcall
      exact C _ _ _ _ _ hcall
    · cases hc

theorem run_enter {f : FuncId} (hk : Known P f) (args : Array Value) (w : World) : (callFunc f args).run P w = .ok (.enter f args) w := by
  obtain ⟨fn, c, h1, h2, h3⟩ := hk
  simp only [callFunc, Sem.run_bind, run_program, Result.andThen_ok, h1, h2, h3, Bool.false_eq_true, if_false, Option.isNone_some, Sem.run_pure]

theorem run_call {o : Oper} {c : Call} {g : Operand} {f : FuncId} {xs ys : Array Value} (ho : o.op = .call c) (hc : c.callee = .value g) (hg : a.eval g = .func (.func f) xs ys) (hk : Known P f) (w : World) :
    (execOp a.eval o).run P w = .ok (.enter f (xs ++ c.args.map a.eval ++ ys)) w := by
  simp only [execOp, ho, resolve, hc, hg, Deferred.ofValue, Sem.run_bind, Sem.run_pure, Result.andThen_ok, invoke, run_enter hk]

theorem stripOp_call {hp : Bool} {o : Oper} {f : FuncId} {args : List Operand} (h : stripOp tt hp o = some (.call f args)) : ∃ c, o.op = .call c ∧ c.callee = .value (.func f) ∧ args = c.args.toList := by
  unfold stripOp at h
  simp only [Bool.cond_eq_ite] at h
  repeat' split at h
  all_goals first
    | (cases h; done)
    | (rename_i c ho _ g hcal; injection h with h; injection h with h1 h2; subst h1; exact ⟨_, by assumption, by assumption, h2.symm⟩)
    | (injection h with h; injection h with h1 h2; subst h1; exact ⟨_, by assumption, by assumption, h2.symm⟩)

theorem stripOp_callv {hp : Bool} {o : Oper} {g : Operand} {args : List Operand} (h : stripOp tt hp o = some (.callv g args)) : ∃ c, o.op = .call c ∧ c.callee = .value g ∧ args = c.args.toList := by
  unfold stripOp at h
  simp only [Bool.cond_eq_ite] at h
  repeat' split at h
  all_goals first
    | (cases h; done)
    | (injection h with h; injection h with h1 h2; subst h1; exact ⟨_, by assumption, by assumption, h2.symm⟩)

theorem RVs.append {xs ys : List AV} {vs us : Array Value} (h : RVs F w ι xs vs) (k : RVs F w ι ys us) : RVs F w ι (xs ++ ys) (vs ++ us) := by
  refine ⟨by simp [h.1, k.1], fun j u c hu hc => ?_⟩
  by_cases hj : j < xs.length
  · rw [List.getElem?_append_left hj] at hu
    rw [Array.getElem?_append_left (by rw [h.1]; exact hj)] at hc
    exact h.2 j u c hu hc
  · rw [List.getElem?_append_right (by omega)] at hu
    rw [Array.getElem?_append_right (by rw [h.1]; omega), h.1] at hc
    exact k.2 _ u c hu hc

theorem evAs_rvs (H : Sim F ι lam n e h a w) {c : Call} {r : List AV} (hx : evAs e c.args.toList = some r) : RVs F w ι r (c.args.map a.eval) := by
  obtain ⟨h1, h2⟩ := evAs_ok H hx
  refine ⟨by simp [h1], fun j u v hu hv => h2 j u v hu ?_⟩
  simpa using hv

/-- Behind what a call does to the heap: the caller's slots. -/
theorem Sim.called (H : Sim F ι lam n e h a w) {F' : Nat → Prop} {ι' : Id → Option Nat} {h' : Heap} {w' : World} (S : HSim F' ι' h' w') (g : Grow (HOwns ι h) F ι w (HOwns ι' h') F' ι' w') :
    Sim F' ι' lam n e h' a w' ∧ Grow (Owns ι lam e h) F ι w (Owns ι' lam e h') F' ι' w' := by
  have hF : ∀ b, F b → w'.heap[b]? = w.heap[b]? := fun b hb => g.kept.same b (H.fin b hb) (fun k => H.notF hb k.owns)
  have hsh : ∀ i b, ι i = some b → SameShape w w' b := fun i b hi => g.kept.shape b (H.iot i b hi)
  have hbox : ∀ s cs, e.get s = some (.box cs) → ¬ HOwns ι h (lam s) := fun s cs hs ⟨i, o, ho, hi⟩ => H.lh s cs i o hs ho hi
  refine ⟨⟨S.fin, S.iot, fun s sv hs => ?_, fun s cs hs => ?_, S.obj, H.ll, S.hh, fun s cs i o hs ho hi => ?_, H.defers, H.size⟩, ⟨g.kept.weaken (fun b _ k => k.owns), g.io, g.fr, g.new, fun b hb => ?_⟩⟩
  · have := H.val s sv hs
    cases sv with
    | v x => exact RV.mono g.fr hF this g.io hsh
    | box cs => exact this
    | lptr t off => exact this
  · obtain ⟨h1, h2, h3⟩ := H.box s cs hs
    refine ⟨fun hf => ?_, Nat.lt_of_lt_of_le h2 g.kept.size, h3.mono (g.kept.same _ h2 (hbox s cs hs)) g.fr hF g.io hsh⟩
    rcases g.new _ hf with h4 | h4
    · exact h1 h4
    · omega
  · rcases g.own _ ⟨i, o, ho, hi⟩ with h4 | h4
    · exact hbox s cs hs h4
    · have := (H.box s cs hs).2.1
      omega
  · rcases hb with ⟨s, cs, hs, rfl⟩ | hb
    · exact .inl (.inl ⟨s, cs, hs, rfl⟩)
    · rcases g.own b hb with h4 | h4
      · exact .inl h4.owns
      · exact .inr h4

/-- What a step comes to. -/
def StepPost (F : Nat → Prop) (ι : Id → Option Nat) (lam : Nat → Nat) (n : Nat) (w : World) (keep : Id → Prop) (s s' : St) (a' : Act) (w' : World) : Prop :=
  ∃ F' ι' lam', Sim F' ι' lam' n s'.env s'.heap a' w' ∧ Grow (Owns ι lam s.env s.heap) F ι w (Owns ι' lam' s'.env s'.heap) F' ι' w' ∧ Ids ι' s'.next ∧ s.next ≤ s'.next ∧ ∀ i, i.1 < s.next → keep i → ι' i = ι i

theorem StepPost.trans {F ι lam n w s s' a' w' s2 a2 w2} {keep keep2 keep3 : Id → Prop} (h : ∃ F' ι' lam', (Sim F' ι' lam' n s'.env s'.heap a' w' ∧ Grow (Owns ι lam s.env s.heap) F ι w (Owns ι' lam' s'.env s'.heap) F' ι' w' ∧ Ids ι' s'.next ∧ s.next ≤ s'.next ∧ ∀ i, i.1 < s.next → keep i → ι' i = ι i) ∧ StepPost F' ι' lam' n w' keep2 s' s2 a2 w2)
    (hk : ∀ i, keep3 i → keep i ∧ keep2 i) : StepPost F ι lam n w keep3 s s2 a2 w2 := by
  obtain ⟨F', ι', lam', ⟨h1, h2, h3, h4, h5⟩, F2, ι2, lam2, k1, k2, k3, k4, k5⟩ := h
  refine ⟨F2, ι2, lam2, k1, h2.trans k2, k3, Nat.le_trans h4 k4, fun i hi hk3 => ?_⟩
  rw [k5 i (Nat.lt_of_lt_of_le hi h4) (hk i hk3).2, h5 i hi (hk i hk3).1]

theorem Sim.put_post {s : St} (H : Sim F ι lam n e h a w) {dst : Option Nat} (hd : ∀ d, dst = some d → d < n) {x : AV} {v : Value} (hv : RV F w ι x v) :
    Sim F ι lam n (e.putO dst (.v x)) h (a.put dst v) w ∧ ∀ b, Owns ι lam (e.putO dst (.v x)) h b → Owns ι lam e h b := by
  cases dst with
  | none => exact ⟨H, fun b hb => hb⟩
  | some d => exact ⟨H.put (hd d rfl) (by simp) hv, fun b hb => Owns.put (by simp) hb⟩

theorem wanted_ok {ops : Array Oper} {o : Oper} {gd : Option (Nat × Bool)} (H : Sim F ι lam n e h a w)
    (hg : (match o.guard with
      | none => some none
      | some (j, want) => match (ops[j]?).bind (·.dst) with
        | some d => some (some (d, want))
        | none => none) = some gd) {b : Bool} (hw : wantedA e gd = some b) (hn : ∀ d want, gd = some (d, want) → d < n) : Region.wanted o (yielded ops a.tmps) = b := by
  unfold Region.wanted
  split at hg
  · rename_i hgd
    injection hg with hg
    subst hg
    simp only [wantedA, Option.some.injEq] at hw
    rw [hgd]
    exact hw
  · rename_i j want hgd
    split at hg
    case h_2 => cases hg
    rename_i d hd
    injection hg with hg
    subst hg
    rw [hgd]
    have hlt : d < a.tmps.size := Nat.lt_of_lt_of_le (hn d want rfl) H.size
    have hget : a.tmps[d]? = some (a.tmps.getD d undef) := by simp [Array.getD, hlt]
    simp only [wantedA] at hw
    simp only [yielded, hd, Option.bind_some, hget]
    split at hw
    · rename_i t hs
      injection hw with hw
      subst hw
      rw [(H.val d _ hs).bool_inv]
      cases t <;> cases want <;> rfl
    · rename_i hs
      injection hw with hw
      subst hw
      obtain ⟨vs, h1, h2, _⟩ := (H.val d _ hs).tuple_inv
      rw [h1]
      rfl
    · cases hw

theorem stripRow_inv {g : Ghost} {ops : Array Oper} {o : Oper} {vo : VO} (h : stripRow tt g ops o = some vo) :
    vo.dst = o.dst ∧ (∃ hp, stripOp tt hp o = some vo.op) ∧ (match o.guard with
      | none => some none
      | some (j, want) => match (ops[j]?).bind (·.dst) with
        | some d => some (some (d, want))
        | none => none) = some vo.guard := by
  unfold stripRow at h
  simp only at h
  split at h
  case h_2 => cases h
  rename_i op gd h1 h2
  injection h with h
  subst h
  exact ⟨rfl, ⟨_, h1⟩, h2⟩

theorem step1_ok {call : CallF} (C : CallSound P call) (K : CallKnown P call) (T : TOk P tt) (G : FOk P tt) {g : Ghost} {ops : Array Oper} {o : Oper} {vo : VO} (hs : stripRow tt g ops o = some vo)
    (hall : ∀ (j : Nat) (o : Oper), ops[j]? = some o → ∀ d, o.dst = some d → d < n) {i : Nat} (ho : ops[i]? = some o) {nid : Id} {s s' : St} {ft : Foot} (hst : step1 call nid vo s = some (s', ft))
    (H : Sim F ι lam n s.env s.heap a w) (hid : Ids ι s.next) (hnl : nid.1 < s.next) (hn : ι nid = none) {Q : Exit → Act → World → Prop} {k : Act → World → Prop}
    (hk : ∀ a' w', StepPost F ι lam n w (fun i => i ≠ nid) s s' a' w' → k a' w') : wpOp P ops Q i k a w := by
  obtain ⟨hdst, ⟨hp, hop⟩, hgd⟩ := stripRow_inv hs
  have hd : ∀ d, o.dst = some d → d < n := hall i o ho
  have hguard : ∀ d want, vo.guard = some (d, want) → d < n := by
    intro d want hh
    rw [hh] at hgd
    split at hgd
    · cases hgd
    · rename_i j want' hj
      split at hgd
      case h_2 => cases hgd
      rename_i d' hd'
      simp only [Option.some.injEq, Prod.mk.injEq] at hgd
      obtain ⟨rfl, rfl⟩ := hgd
      cases hoj : ops[j]? with
      | none => rw [hoj] at hd'; simp at hd'
      | some oj => rw [hoj] at hd'; exact hall j oj hoj d' hd'
  unfold wpOp
  simp only [ho]
  unfold step1 at hst
  split at hst
  · rename_i hw
    simp only [Option.some.injEq, Prod.mk.injEq] at hst
    obtain ⟨rfl, _⟩ := hst
    rw [wanted_ok H hgd hw hguard]
    simp only [Bool.false_eq_true, if_false]
    rw [hdst] at hk
    obtain ⟨h1, h2⟩ := Sim.put_post (s := s) H hd (x := .tuple []) (v := undef) (.tuple _ _ _ rfl (fun j u c hu => by simp at hu))
    exact hk _ _ ⟨F, ι, lam, h1, (Grow.refl _ _ _ _).own_le h2, hid, Nat.le_refl _, fun _ _ _ => rfl⟩
  · cases hst
  · rename_i hw
    rw [wanted_ok H hgd hw hguard]
    simp only [if_true]
    refine .inl ?_
    unfold Oper.wp
    have hcall : ∀ {c : Call} {gg : Operand} {f : FuncId} {xs ys : Array Value} {m : Mode} {args : List AV} {r : AV} {h1 : Heap} {n1 : Nat}, o.op = .call c → c.callee = .value gg → a.eval gg = .func (.func f) xs ys →
        callM call m nid f args s.heap s.next = some (r, h1, n1) → RVs F w ι args (xs ++ c.args.map a.eval ++ ys) → s' = { env := (putDst s vo.dst (.v r)).env, heap := h1, next := n1 } →
        o.upon P a k Q ((execOp a.eval o).run P w) := by
      intro c gg f xs ys m args r h1 n1 hoc hcal hgg hcm hv hs'
      rw [run_call hoc hcal hgg (callM_known K hcm)]
      refine (callM_ok C hcm F ι w _ H.heapS hid hnl hn hv).mono ?_
      rintro e w' ⟨hle, cv, F', ι', rfl, hr, hS, hG, hid', hkeep⟩
      obtain ⟨k1, k2⟩ := H.called hS hG
      obtain ⟨k3, k4⟩ := Sim.put_post (s := s) k1 hd hr
      subst hs'
      refine hk _ _ ⟨F', ι', lam, ?_, ?_, hid', hle, fun i hi hne => hkeep i ⟨hi, hne⟩⟩
      · simp only [putDst, hdst]; exact k3
      · simp only [putDst, hdst]; exact k2.own_le k4
    split at hst
    · rename_i f args hvo
      split at hst
      case h_2 => cases hst
      rename_i l hl
      split at hst
      case h_2 => cases hst
      rename_i r h1 n1 hcm
      simp only [Option.some.injEq, Prod.mk.injEq] at hst
      obtain ⟨rfl, _⟩ := hst
      rw [hvo] at hop
      obtain ⟨c, c1, c2, rfl⟩ := stripOp_call hop
      refine hcall c1 c2 rfl hcm ?_ rfl
      have := evAs_rvs H hl
      simpa using this
    · rename_i gg args hvo
      split at hst
      case h_2 => cases hst
      rename_i l hl
      split at hst
      case h_2 => cases hst
      rename_i f l' htg
      split at hst
      case h_2 => cases hst
      rename_i r h1 n1 hcm
      simp only [Option.some.injEq, Prod.mk.injEq] at hst
      obtain ⟨rfl, _⟩ := hst
      rw [hvo] at hop
      obtain ⟨c, c1, c2, rfl⟩ := stripOp_callv hop
      unfold target at htg
      split at htg
      case h_2 => cases htg
      rename_i f' first captured hg
      simp only [Option.some.injEq, Prod.mk.injEq] at htg
      obtain ⟨rfl, rfl⟩ := htg
      obtain ⟨xs, ys, q1, q2, q3, q4, q5⟩ := (evA_ok H hg).func_inv
      exact hcall (m := .eff) c1 c2 q1 hcm (RVs.append (RVs.append ⟨q2, q4⟩ (evAs_rvs H hl)) ⟨q3, q5⟩) rfl
    · split at hst
      case h_2 => cases hst
      rename_i eff ha
      simp only [Option.some.injEq, Prod.mk.injEq] at hst
      obtain ⟨rfl, _⟩ := hst
      rw [hdst] at ha hk
      obtain ⟨nx, v, w', ι', lam', h1, h2, h3, h4, h5, h6, h7⟩ := op_ok (N := s.next) T G H hn hd hop ha
      have hidn : Ids ι' s.next := fun i b hi => by
        by_cases hin : i = nid
        · subst hin; exact hnl
        · rw [h6 i hin] at hi; exact hid i b hi
      have hpost : StepPost F ι lam n w (fun i => i ≠ nid) s (s.eff o.dst eff) (a.put o.dst v) w' :=
        ⟨F, ι', lam', h3, ⟨h4, h5, fun _ h => h, fun _ h => .inl h, h7⟩, hidn, Nat.le_refl _, fun i _ hne => h6 i hne⟩
      rw [h1]
      rcases h2 with rfl | ⟨rfl, rfl⟩
      · exact hk _ _ hpost
      · exact hk _ _ hpost
end
end Go.AM

/- AM, part 18: a region in the order of its text. -/
namespace Go.AM
noncomputable section
set_option linter.unusedVariables false
set_option linter.unusedSimpArgs false

variable {P : Program} {tt : TypeId → Option TI}
variable {F : Nat → Prop} {ι : Id → Option Nat} {lam : Nat → Nat} {n : Nat} {e : Env} {h : Heap} {a : Act} {w : World}

theorem stripRows_len {g : Ghost} {ops : Array Oper} : ∀ {os : List Oper} {l : List VO}, stripRows tt g ops os = some l → l.length = os.length ∧ ∀ (j : Nat) (o : Oper), os[j]? = some o → ∃ vo, l[j]? = some vo ∧ stripRow tt g ops o = some vo
  | [], l, h => by
    simp only [stripRows, Option.some.injEq] at h
    subst h
    exact ⟨rfl, fun j o ho => by simp at ho⟩
  | x :: r, l, h => by
    simp only [stripRows] at h
    split at h
    case h_2 => cases h
    rename_i v t h1 h2
    injection h with h
    subst h
    obtain ⟨k1, k2⟩ := stripRows_len h2
    refine ⟨by simp [k1], fun j o ho => ?_⟩
    cases j with
    | zero => simp at ho; subst ho; exact ⟨v, by simp, h1⟩
    | succ j => simp at ho; obtain ⟨vo, q1, q2⟩ := k2 j o ho; exact ⟨vo, by simpa using q1, q2⟩

theorem StepPost.refl {keep : Id → Prop} {s : St} (H : Sim F ι lam n s.env s.heap a w) (hid : Ids ι s.next) : StepPost F ι lam n w keep s s a w :=
  ⟨F, ι, lam, H, .refl _ _ _ _, hid, Nat.le_refl _, fun _ _ _ => rfl⟩

theorem runL_ok {call : CallF} (C : CallSound P call) (K : CallKnown P call) (T : TOk P tt) (G : FOk P tt) {g : Ghost} {ops : Array Oper} {l0 : List VO} (hs : stripRows tt g ops ops.toList = some l0)
    (hall : ∀ (j : Nat) (o : Oper), ops[j]? = some o → ∀ d, o.dst = some d → d < n) {nr : Nat} {Q : Exit → Act → World → Prop} : ∀ (l : List VO) (i : Nat) (F : Nat → Prop) (ι : Id → Option Nat) (lam : Nat → Nat) (a : Act) (w : World) (s s' : St),
    l0.drop i = l → i + l.length = ops.size → runL call nr i l s = some s' → Sim F ι lam n s.env s.heap a w → Ids ι s.next → nr < s.next → (∀ j, i ≤ j → ι (nr, j) = none) →
    (∀ a' w', StepPost F ι lam n w (fun x => x.1 ≠ nr) s s' a' w' → Q .normal a' w') → wpOps P ops Q (List.range' i l.length) a w := by
  intro l
  induction l with
  | nil =>
    intro i F ι lam a w s s' hl hi hr H hid hnr hfr hq
    simp only [runL, Option.some.injEq] at hr
    subst hr
    exact hq a w (.refl H hid)
  | cons o r ih =>
    intro i F ι lam a w s s' hl hi hr H hid hnr hfr hq
    simp only [runL] at hr
    split at hr
    case h_2 => cases hr
    rename_i s1 ft hst
    simp only [List.length_cons] at hi
    have hlt : i < ops.toList.length := by simp; omega
    obtain ⟨h1, h2⟩ := stripRows_len hs
    obtain ⟨vo, h3, h4⟩ := h2 i ops[i] (by simp)
    have hvo : vo = o := by
      have : (l0.drop i)[0]? = some vo := by rw [List.getElem?_drop]; simpa using h3
      rw [hl] at this
      simpa using this.symm
    subst hvo
    simp only [List.length_cons, List.range'_succ]
    rw [wpOps_cons]
    refine step1_ok C K T G h4 hall (i := i) (by simp) hst H hid hnr (hfr i (Nat.le_refl i)) (fun a' w' hp => ?_)
    obtain ⟨F', ι', lam', q1, q2, q3, q4, q5⟩ := hp
    refine ih (i + 1) F' ι' lam' a' w' s1 s' (by rw [← List.drop_drop, hl]; rfl) (by omega) hr q1 q3 (by omega) (fun j hj => ?_) (fun a2 w2 hp2 => ?_)
    · rw [q5 (nr, j) hnr (by intro hh; injection hh with _ hh; omega)]
      exact hfr j (by omega)
    · exact hq a2 w2 (.trans ⟨F', ι', lam', ⟨q1, q2, q3, q4, q5⟩, hp2⟩ (fun x hx => ⟨fun hh => hx (by rw [hh]), hx⟩))

theorem region_ok {call : CallF} (C : CallSound P call) (K : CallKnown P call) (T : TOk P tt) (G : FOk P tt) {g : Ghost} {ops : Array Oper} {l : List VO} (hs : stripRows tt g ops ops.toList = some l)
    (hall : ∀ (j : Nat) (o : Oper), ops[j]? = some o → ∀ d, o.dst = some d → d < n) {nr : Nat} {Q : Exit → Act → World → Prop} {s s' : St} {id : Nat} (hr : runL call nr 0 l s = some s')
    (H : Sim F ι lam n s.env s.heap a w) (hid : Ids ι s.next) (hnr : nr < s.next) (hfr : ∀ j, ι (nr, j) = none)
    (hq : ∀ a' w', StepPost F ι lam n w (fun x => x.1 ≠ nr) s s' a' w' → Q .normal a' w') : (Code.region id ops false).wp P Q a w := by
  apply wp_region
  have hlen : l.length = ops.size := by rw [(stripRows_len hs).1]; simp
  rw [List.range_eq_range', ← hlen]
  exact runL_ok C K T G hs hall l 0 F ι lam a w s s' rfl (by omega) hr H hid hnr (fun j _ => hfr j) hq
end
end Go.AM

/- AM, part 20: the run of a function. -/
namespace Go.AM
noncomputable section
set_option linter.unusedVariables false
set_option linter.unusedSimpArgs false

variable {P : Program} {tt : TypeId → Option TI} {T : FuncId → Option VFun}
variable {F : Nat → Prop} {ι : Id → Option Nat} {lam : Nat → Nat} {n : Nat} {e : Env} {h : Heap} {a : Act} {w : World}

/-- Regions that draw. -/
def DrawOk (P : Program) (tt : TypeId → Option TI) : Prop :=
  ∀ (call : CallF), CallSound P call → CallKnown P call → ∀ (g : Ghost) (ops : Array Oper) (l : List VO) (un : List (Nat × Nat)) (n nr : Nat) (s s' : St) (F : Nat → Prop) (ι : Id → Option Nat) (lam : Nat → Nat) (a : Act) (w : World) (Q : Exit → Act → World → Prop),
    stripRows tt g ops ops.toList = some l → drawn ops l = some un → (∀ (j : Nat) (o : Oper), ops[j]? = some o → ∀ d, o.dst = some d → d < n) → runD call nr un s.env 0 [] l s = some s' →
    Sim F ι lam n s.env s.heap a w → Ids ι s.next → nr < s.next → (∀ j, ι (nr, j) = none) → (∀ a' w', StepPost F ι lam n w (fun x => x.1 ≠ nr) s s' a' w' → Q .normal a' w') →
    wpAny P .any ops Q ops.size (Array.replicate ops.size false) a w

/-- The items of the run, and the machine's. -/
inductive Corr (tt : TypeId → Option TI) (g : Ghost) (n : Nat) : List Item → List Go.Item → Prop
  | nil : Corr tt g n [] []
  | code {c vc ks ks' l l'} : stripC tt g n c ks = some (vc, ks') → Corr tt g n l l' → Corr tt g n (.code vc :: l) (.code c :: l')
  | inBlock {id l l'} : Corr tt g n l l' → Corr tt g n (.inBlock id :: l) (.inBlock id :: l')
  | inLoop {c vc ks ks' kl l l'} : stripC tt g n c ks = some (vc, ks') → Corr tt g n l l' → Corr tt g n (.inLoop kl vc :: l) (.inLoop c :: l')

theorem exitTo_ok {g : Ghost} {id : Nat} : ∀ {l : List Item} {l' : List Go.Item} {k : List Item}, Corr tt g n l l' → exitTo id l = some k → ∃ k', Go.exitTo id l' = some k' ∧ Corr tt g n k k' := by
  intro l l' k hc
  induction hc with
  | nil => intro h; cases h
  | code h1 h2 ih => intro h; simp only [exitTo] at h; obtain ⟨k', q1, q2⟩ := ih h; exact ⟨k', by simpa [Go.exitTo] using q1, q2⟩
  | @inBlock j l l' h2 ih =>
    intro h
    simp only [exitTo] at h
    cases hj : (j == id)
    · rw [hj] at h
      simp only [cond_false] at h
      obtain ⟨k', q1, q2⟩ := ih h
      refine ⟨k', ?_, q2⟩
      simp only [Go.exitTo, hj, Bool.false_eq_true, if_false]
      exact q1
    · rw [hj] at h
      simp only [cond_true, Option.some.injEq] at h
      subst h
      refine ⟨_, ?_, h2⟩
      simp only [Go.exitTo, hj, if_true]
  | inLoop h1 h2 ih => intro h; simp only [exitTo] at h; obtain ⟨k', q1, q2⟩ := ih h; exact ⟨k', by simpa [Go.exitTo] using q1, q2⟩

/-- The functions of the table are the program's. -/
def TabOk (P : Program) (tt : TypeId → Option TI) (T : FuncId → Option VFun) : Prop :=
  ∀ f vf, T f = some vf → ∃ fn g, P.funcs[f]? = some fn ∧ (fn.name == "runtime.NumGoroutine") = false ∧ stripF tt g fn = some vf

theorem stripF_inv {g : Ghost} {fn : Func} {vf : VFun} (h : stripF tt g fn = some vf) : ∃ c b, fn.body = some c ∧ stripC tt g fn.ntmps c g.ks = some (b, []) ∧ vf.body = b ∧ vf.nargs = fn.params.size + fn.nfree ∧
    resOf tt fn.results.toList = some vf.results ∧ fn.params.size + fn.nfree ≤ fn.ntmps := by
  unfold stripF at h
  split at h
  case h_2 => cases h
  rename_i c hc
  split at h
  case h_2 => cases h
  rename_i b rs h1 h2
  cases hb : Nat.ble (fn.params.size + fn.nfree) fn.ntmps
  · simp [hb] at h
  rw [hb] at h
  simp only [cond_true, Option.some.injEq] at h
  subst h
  exact ⟨c, b, hc, h1, rfl, rfl, h2, Nat.le_of_ble_eq_true hb⟩

theorem callT_known (B : TabOk P tt T) (k : Nat) : CallKnown P (callT T k) := by
  intro f args h N r hc
  unfold callT at hc
  split at hc
  case h_2 => cases hc
  rename_i vf hT
  obtain ⟨fn, g, h1, h2, h3⟩ := B f vf hT
  obtain ⟨c, b, h4, _⟩ := stripF_inv h3
  exact ⟨fn, c, h1, h2, h4⟩

def RunOk (P : Program) (tt : TypeId → Option TI) (T : FuncId → Option VFun) (k : Nat) : Prop :=
  ∀ (g : Ghost) (n : Nat) (items : List Item) (s s' : St), run T k items s = some s' → ∀ (mi : List Go.Item) (F : Nat → Prop) (ι : Id → Option Nat) (lam : Nat → Nat) (a : Act) (w : World), Corr tt g n items mi → Sim F ι lam n s.env s.heap a w → Ids ι s.next →
    ∀ (b : Frame) (cs : List Frame), ∃ a' w' todo, StepPost F ι lam n w (fun _ => True) s s' a' w' ∧ Steps P (lone (b.at a mi) cs w) (lone { b.at a' todo with mode := .returning } cs w')

theorem sim_init {args : List AV} {cargs : Array Value} {m : Nat} (hm : cargs.size ≤ m) (H : HSim F ι h w) (hv : RVs F w ι args cargs) : Sim F ι (fun _ => 0) m (initEnv 0 args) h { tmps := cargs ++ Array.replicate (m - cargs.size) undef, defers := [] } w := by
  have key : ∀ (as : List AV) (i s : Nat) (sv : SV), (initEnv i as).get s = some sv → ∃ u, sv = .v u ∧ i ≤ s ∧ as[s - i]? = some u := by
    intro as
    induction as with
    | nil => intro i s sv hs; rw [initEnv, Env.get_empty] at hs; cases hs
    | cons x r ih =>
      intro i s sv hs
      rw [initEnv, Env.get_put] at hs
      split at hs
      · rename_i hi
        subst hi
        exact ⟨x, (Option.some.inj hs).symm, Nat.le_refl _, by simp⟩
      · rename_i hi
        obtain ⟨u, h1, h2, h3⟩ := ih _ _ _ hs
        refine ⟨u, h1, by omega, ?_⟩
        have : s - i = (s - (i + 1)) + 1 := by omega
        rw [this]
        simpa using h3
  refine ⟨H.fin, H.iot, fun s sv hs => ?_, fun s cs hs => ?_, H.obj, fun s t cs ds hs => ?_, H.hh, fun s cs i o hs => ?_, rfl, ?_⟩
  · obtain ⟨u, rfl, _, hu⟩ := key _ _ _ _ hs
    simp only [Nat.sub_zero] at hu
    have hlt : s < args.length := (List.getElem?_eq_some_iff.1 hu).1
    have hlt' : s < cargs.size := by rw [hv.1]; exact hlt
    show RV F w ι u _
    have hg : (cargs ++ Array.replicate (m - cargs.size) undef).getD s undef = cargs[s] := by
      rw [Array.getD_eq_getD_getElem?, Array.getElem?_append_left hlt', Array.getElem?_eq_getElem hlt']
      rfl
    rw [hg]
    exact hv.2 s u _ hu (Array.getElem?_eq_getElem hlt')
  · obtain ⟨u, hh, _⟩ := key _ _ _ _ hs; cases hh
  · obtain ⟨u, hh, _⟩ := key _ _ _ _ hs; cases hh
  · obtain ⟨u, hh, _⟩ := key _ _ _ _ hs; cases hh
  · show m ≤ (cargs ++ Array.replicate (m - cargs.size) undef).size
    simp; omega

theorem init_owns {args : List AV} {b : Nat} (hb : Owns ι lam (initEnv 0 args) h b) : HOwns ι h b := by
  rcases hb with ⟨s, cs, hs, _⟩ | hb
  · exfalso
    have : ∀ (as : List AV) (i : Nat), (initEnv i as).get s ≠ some (.box cs) := by
      intro as
      induction as with
      | nil => intro i hh; rw [initEnv, Env.get_empty] at hh; cases hh
      | cons x r ih =>
        intro i hh
        rw [initEnv, Env.get_put] at hh
        split at hh
        · simp at hh
        · exact ih _ hh
    exact this _ _ hs
  · exact hb

def resVal (tmps : Array Value) (rv : ResultVar) : Sem Value :=
  match rv with
  | .tmp t => pure (tmps.getD t undef)
  | .cell q t => do loadVar t (← asAddr (tmps.getD q undef))
theorem results_eq (fn : Func) (tmps : Array Value) : results fn tmps = (do
    let vs ← fn.results.mapM (resVal tmps)
    pure (if h : vs.size = 1 then vs[0] else .tuple vs)) := by
  unfold results
  refine congrArg (fun f : ResultVar → Sem Value => (Array.mapM f fn.results >>= fun vs => pure (if h : vs.size = 1 then vs[0] else Value.tuple vs))) ?_
  funext rv
  cases rv <;> rfl

theorem readRes_ok (TT : TOk P tt) (H : Sim F ι lam n e h a w) {rv : ResultVar} {rk : RK} {rs : List RK} {r : AV} (hr : resOf tt [rv] = some [rk]) (hx : readRes e h rk = some r) :
    ∃ v, (resVal a.tmps rv).run P w = .ok v w ∧ RV F w ι r v := by
  cases rv with
  | tmp t =>
    simp only [resOf, Option.some.injEq, List.cons.injEq, and_true] at hr
    subst hr
    exact ⟨_, Sem.run_pure _ _ _, evA_ok (x := .tmp t) H hx⟩
  | cell q t =>
    simp only [resOf] at hr
    split at hr
    case h_2 => cases hr
    rename_i k l hk hl
    simp only [Option.some.injEq, List.cons.injEq] at hr
    obtain ⟨rfl, _⟩ := hr
    simp only [readRes] at hx
    split at hx
    case h_2 => cases hx
    rename_i p hp
    split at hx
    case h_2 => cases hx
    rename_i l rd hl
    obtain ⟨h1, h2⟩ := evS_ok H hp
    obtain ⟨h3, b, off, hc, h4⟩ := readAt_ok H h2 hl
    obtain ⟨v, h5, h6⟩ := load_ok TT hk h3 h4 hx
    refine ⟨v, ?_, h6⟩
    have hc' : a.tmps.getD q undef = .pointer (some ⟨b, off, none⟩) := hc
    simp only [resVal, hc', asAddr, Sem.run_bind, Sem.run_pure, Result.andThen_ok, h5]

theorem readRess_ok (TT : TOk P tt) (H : Sim F ι lam n e h a w) : ∀ {rvs : List ResultVar} {rks : List RK} {l : List AV}, resOf tt rvs = some rks → readRess e h rks = some l →
    ∃ vs : List Value, (rvs.mapM (resVal a.tmps)).run P w = .ok vs w ∧ vs.length = l.length ∧ ∀ (j : Nat) (u : AV) (c : Value), l[j]? = some u → vs[j]? = some c → RV F w ι u c
  | [], rks, l, hr, hx => by
    simp only [resOf, Option.some.injEq] at hr
    subst hr
    simp only [readRess, Option.some.injEq] at hx
    subst hx
    exact ⟨[], by simp, rfl, fun j u c hu => by simp at hu⟩
  | rv :: rvs, rks, l, hr, hx => by
    have split2 : ∃ rk rks', resOf tt [rv] = some [rk] ∧ resOf tt rvs = some rks' ∧ rks = rk :: rks' := by
      cases rv with
      | tmp t =>
        simp only [resOf] at hr ⊢
        split at hr
        case h_2 => cases hr
        rename_i l hl
        injection hr with hr
        exact ⟨_, l, rfl, hl, hr.symm⟩
      | cell q t =>
        simp only [resOf] at hr ⊢
        split at hr
        case h_2 => cases hr
        rename_i k l hk hl
        injection hr with hr
        exact ⟨.cell q k, l, by rw [hk], hl, hr.symm⟩
    obtain ⟨rk, rks', q1, q2, rfl⟩ := split2
    simp only [readRess] at hx
    split at hx
    case h_2 => cases hx
    rename_i r rl h1 h2
    injection hx with hx
    subst hx
    obtain ⟨v, h3, h4⟩ := readRes_ok (rs := rks') TT H q1 h1
    obtain ⟨vs, h5, h6, h7⟩ := readRess_ok TT H q2 h2
    refine ⟨v :: vs, ?_, by simp [h6], fun j u c hu hc => ?_⟩
    · rw [List.mapM_cons]
      simp only [Sem.run_bind, h3, Result.andThen_ok, h5, Sem.run_pure]
    · cases j with
      | zero => simp at hu hc; subst hu; subst hc; exact h4
      | succ j => simp at hu hc; exact h7 j u c hu hc

theorem results_ok (TT : TOk P tt) (H : Sim F ι lam n e h a w) {fn : Func} {rks : List RK} {l : List AV} (hr : resOf tt fn.results.toList = some rks) (hx : readRess e h rks = some l) :
    ∃ v, (results fn a.tmps).run P w = .ok v w ∧ RV F w ι (theRes l) v := by
  obtain ⟨vs, h1, h2, h3⟩ := readRess_ok TT H hr hx
  have hrun : (results fn a.tmps).run P w = .ok (if h : vs.toArray.size = 1 then vs.toArray[0] else .tuple vs.toArray) w := by
    rw [results_eq]
    simp only [Array.mapM_eq_mapM_toList, Sem.run_bind, Sem.run_map, h1, Result.andThen_ok, Sem.run_pure]
  refine ⟨_, hrun, ?_⟩
  rcases l with _ | ⟨x, _ | ⟨y, l⟩⟩
  · rcases vs with _ | ⟨v, vs⟩
    · exact .tuple _ _ _ rfl (fun j u c hu => by simp at hu)
    · simp at h2
  · rcases vs with _ | ⟨v, _ | ⟨u, vs⟩⟩
    · simp at h2
    · exact h3 0 x v (by simp) (by simp)
    · simp at h2
  · rcases vs with _ | ⟨v, _ | ⟨u, vs⟩⟩
    · simp at h2
    · simp at h2
    · have : ¬ ((v :: u :: vs).toArray.size = 1) := by simp
      rw [dif_neg this]
      exact .tuple _ _ _ (by simpa using h2) (fun j u c hu hc => h3 j u c hu (by simpa using hc))

/-- From runs to calls. -/
theorem callT_sound (B : TabOk P tt T) (TT : TOk P tt) {k : Nat} (R : RunOk P tt T k) : CallSound P (callT T k) := by
  intro f args h N r h' N' hc
  unfold callT at hc
  split at hc
  case h_2 => cases hc
  rename_i vf hT
  obtain ⟨fn, g, h1, h2, h3⟩ := B f vf hT
  obtain ⟨c, b, h4, h5, h6, h7, h8, h9⟩ := stripF_inv h3
  cases hlen : (vf.nargs == args.length)
  · simp [hlen] at hc
  rw [hlen] at hc
  simp only [cond_true] at hc
  split at hc
  case h_2 => cases hc
  rename_i s' hrun
  split at hc
  case h_2 => cases hc
  rename_i l hl
  simp only [Option.some.injEq, Prod.mk.injEq] at hc
  obtain ⟨rfl, rfl, rfl⟩ := hc
  have hcorr : Corr tt g fn.ntmps [.code vf.body] [.code c] := .code (by rw [h6]; exact h5) .nil
  intro F ι w cargs H hid hv cs
  let b0 : Frame := { (default : Frame) with fn := f, kind := .normal }
  have henter : Frame.enter P f cargs .normal = b0.at { tmps := cargs ++ Array.replicate (fn.ntmps - cargs.size) undef, defers := [] } [.code c] := by
    simp [Frame.enter, Frame.at, h1, h4, b0]
  have hsz : cargs.size ≤ fn.ntmps := by
    rw [hv.1]
    have : vf.nargs = args.length := by simpa using hlen
    omega
  obtain ⟨a', w', todo, ⟨F', ι', lam', q1, q2, q3, q4, q5⟩, hsteps⟩ := R g fn.ntmps _ _ _ hrun [.code c] F ι (fun _ => 0) _ w hcorr (sim_init hsz H hv) hid b0 cs
  obtain ⟨v, hres, hrv⟩ := results_ok TT q1 h8 hl
  refine ⟨.returned v, w', _, ⟨q4, v, F', ι', rfl, hrv, q1.heapS, ⟨q2.kept.weaken (fun b _ hb => init_owns hb), q2.io, q2.fr, q2.new, fun b hb => ?_⟩, q3, fun i hi => q5 i hi trivial⟩, henter ▸ hsteps, rfl, rfl, q1.defers, rfl, fn, h1, hres⟩
  rcases q2.own b hb.owns with h | h
  · exact .inl (init_owns h)
  · exact .inr h

theorem run_ok (B : TabOk P tt T) (TT : TOk P tt) (G : FOk P tt) (D : DrawOk P tt) (hm : P.follows .mixedOrders = true) : ∀ k, RunOk P tt T k := by
  intro k
  induction k with
  | zero => intro g n items s s' h; cases h
  | succ k ih =>
    intro g n items s s' hrun mi F ι lam a w hc H hid b cs
    have C := callT_sound B TT ih
    have K := callT_known B k
    -- one step of the machine's, and the rest
    have next : ∀ {items' : List Item} {mi' : List Go.Item} {m1 : Machine}, run T k items' s = some s' → Corr tt g n items' mi' → step P (lone (b.at a mi) cs w) = .next (lone (b.at a mi') cs w) →
        ∃ a' w' todo, StepPost F ι lam n w (fun _ => True) s s' a' w' ∧ Steps P (lone (b.at a mi) cs w) (lone { b.at a' todo with mode := .returning } cs w') := by
      intro items' mi' m1 h1 h2 h3
      obtain ⟨a', w', todo, q1, q2⟩ := ih g n items' s s' h1 mi' F ι lam a w h2 H hid b cs
      exact ⟨a', w', todo, q1, .head h3 q2⟩
    have killed : ∀ (ks : List Nat) {items' : List Item} {mi' : List Go.Item}, run T k items' { s with env := s.env.kill ks } = some s' → Corr tt g n items' mi' → step P (lone (b.at a mi) cs w) = .next (lone (b.at a mi') cs w) →
        ∃ a' w' todo, StepPost F ι lam n w (fun _ => True) s s' a' w' ∧ Steps P (lone (b.at a mi) cs w) (lone { b.at a' todo with mode := .returning } cs w') := by
      intro ks items' mi' h1 h2 h3
      obtain ⟨a', w', todo, ⟨F', ι', lam', q1, q2, q3, q4, q5⟩, q6⟩ := ih g n items' { s with env := s.env.kill ks } s' h1 mi' F ι lam a w h2 (H.kill ks) hid b cs
      have hk : ∀ b, Owns ι lam (s.env.kill ks) s.heap b → Owns ι lam s.env s.heap b := by
        rintro b (⟨t, ds, ht, rfl⟩ | hb)
        · rw [Env.get_kill] at ht
          split at ht
          · exact .inl ⟨t, ds, ht, rfl⟩
          · cases ht
        · exact .inr hb
      refine ⟨a', w', todo, ⟨F', ι', lam', q1, ⟨q2.kept.weaken (fun b _ hb => hk b hb), q2.io, q2.fr, q2.new, fun b hb => ?_⟩, q3, q4, q5⟩, .head h3 q6⟩
      rcases q2.own b hb with h | h
      · exact .inl (hk b h)
      · exact .inr h
    cases hc with
    | nil =>
      simp only [run, Option.some.injEq] at hrun
      subst hrun
      exact ⟨a, w, [], .refl H hid, .one step_end⟩
    | inBlock h2 => exact next (m1 := default) (by simpa only [run] using hrun) h2 step_inBlock
    | inLoop h1 h2 => exact killed _ (by simpa only [run] using hrun) (.code h1 (.inLoop h1 h2)) step_inLoop
    | @code c vc ks ks' l l' h1 h2 =>
      cases c with
      | skip =>
        simp only [stripC, Option.some.injEq, Prod.mk.injEq] at h1
        obtain ⟨rfl, rfl⟩ := h1
        exact next (m1 := default) (by simpa only [run] using hrun) h2 step_skip
      | ret =>
        simp only [stripC, Option.some.injEq, Prod.mk.injEq] at h1
        obtain ⟨rfl, rfl⟩ := h1
        simp only [run, Option.some.injEq] at hrun
        subst hrun
        exact ⟨a, w, _, .refl H hid, .one step_ret⟩
      | exit id =>
        simp only [stripC, Option.some.injEq, Prod.mk.injEq] at h1
        obtain ⟨rfl, rfl⟩ := h1
        simp only [run] at hrun
        split at hrun
        case h_2 => cases hrun
        rename_i t' ht
        obtain ⟨k', q1, q2⟩ := exitTo_ok h2 ht
        exact next (m1 := default) hrun q2 (step_exit q1)
      | seq x y =>
        simp only [stripC] at h1
        split at h1
        case h_2 => cases h1
        rename_i vx ks1 hx
        split at h1
        case h_2 => cases h1
        rename_i vy ks2 hy
        simp only [Option.some.injEq, Prod.mk.injEq] at h1
        obtain ⟨rfl, rfl⟩ := h1
        exact next (m1 := default) (by simpa only [run] using hrun) (.code hx (.code hy h2)) step_seq
      | block id x =>
        simp only [stripC] at h1
        split at h1
        case h_2 => cases h1
        rename_i vx ks1 hx
        simp only [Option.some.injEq, Prod.mk.injEq] at h1
        obtain ⟨rfl, rfl⟩ := h1
        exact next (m1 := default) (by simpa only [run] using hrun) (.code hx (.inBlock h2)) step_block
      | loop x =>
        cases ks with
        | nil => simp [stripC] at h1
        | cons q ks =>
          simp only [stripC] at h1
          split at h1
          case h_2 => cases h1
          rename_i vx ks1 hx
          simp only [Option.some.injEq, Prod.mk.injEq] at h1
          obtain ⟨rfl, rfl⟩ := h1
          exact killed _ (by simpa only [run] using hrun) (.code hx (.inLoop hx h2)) step_loop
      | cond x p q =>
        simp only [stripC] at h1
        split at h1
        case h_2 => cases h1
        rename_i vp ks1 hp
        split at h1
        case h_2 => cases h1
        rename_i vq ks2 hq
        simp only [Option.some.injEq, Prod.mk.injEq] at h1
        obtain ⟨rfl, rfl⟩ := h1
        simp only [run] at hrun
        split at hrun
        · rename_i hx
          exact next (m1 := default) hrun (.code hp h2) (step_cond (t := true) (evA_ok H hx).bool_inv)
        · rename_i hx
          exact next (m1 := default) hrun (.code hq h2) (step_cond (t := false) (evA_ok H hx).bool_inv)
        · cases hrun
      | region id ops draw =>
        simp only [stripC] at h1
        split at h1
        case h_2 => cases h1
        rename_i vl hs
        cases hall : ops.toList.all (dstIn n)
        · rw [hall] at h1; cases h1
        rw [hall] at h1
        simp only [cond_true] at h1
        have hall' : ∀ (j : Nat) (o : Oper), ops[j]? = some o → ∀ d, o.dst = some d → d < n := by
          intro j o ho d hd
          have := List.all_eq_true.1 hall o (by rw [Array.mem_toList_iff]; exact Array.mem_of_getElem? ho)
          simp only [dstIn, hd] at this
          simpa [Nat.blt_eq] using this
        have fin : ∀ {s1 : St}, (Code.region id ops draw).wp P (fun ex a' w' => ex = .normal ∧ StepPost F ι lam n w (fun x => x.1 ≠ s.next) { s with next := s.next + 1 } s1 a' w') a w → run T k l s1 = some s' →
            ∃ a' w' todo, StepPost F ι lam n w (fun _ => True) s s' a' w' ∧ Steps P (lone (b.at a (.code (.region id ops draw) :: l')) cs w) (lone { b.at a' todo with mode := .returning } cs w') := by
          intro s1 hwp hr
          obtain ⟨ex, a1, w1, ⟨rfl, F1, ι1, lam1, q1, q2, q3, q4, q5⟩, harr⟩ := hwp b l' cs
          obtain ⟨a', w', todo, k1, k2⟩ := ih g n l s1 s' hr l' F1 ι1 lam1 a1 w1 h2 q1 q3 b cs
          obtain ⟨F2, ι2, lam2, r1, r2, r3, r4, r5⟩ := k1
          simp only at q4 q5
          refine ⟨a', w', todo, ⟨F2, ι2, lam2, r1, Grow.trans q2 r2, r3, by omega, fun i hi _ => ?_⟩, Steps.trans harr k2⟩
          rw [r5 i (by omega) trivial, q5 i (by omega) (by omega)]
        have hid' : Ids ι (s.next + 1) := fun i b hi => Nat.lt_succ_of_lt (hid i b hi)
        have hfr : ∀ j, ι (s.next, j) = none := fun j => by
          cases hh : ι (s.next, j) with
          | none => rfl
          | some b => have := hid _ _ hh; simp at this
        cases draw with
        | false =>
          simp only [Option.some.injEq, Prod.mk.injEq] at h1
          obtain ⟨rfl, rfl⟩ := h1
          simp only [run] at hrun
          split at hrun
          case h_2 => cases hrun
          rename_i s1 hs1
          exact fin (region_ok (s := { s with next := s.next + 1 }) C K TT G hs hall' hs1 H hid' (Nat.lt_succ_self _) hfr (fun a' w' hp => ⟨rfl, hp⟩)) hrun
        | true =>
          simp only at h1
          split at h1
          case h_2 => cases h1
          rename_i un hun
          simp only [Option.some.injEq, Prod.mk.injEq] at h1
          obtain ⟨rfl, rfl⟩ := h1
          simp only [run] at hrun
          split at hrun
          case h_2 => cases hrun
          rename_i s1 hs1
          refine fin (wp_region_any hm ?_) hrun
          have H' : Sim F ι lam n s.env s.heap a { w with drawn := w.drawn + 1 } := H.world (fun _ _ => rfl) (Nat.le_refl _)
          refine D _ C K g ops vl un n s.next { s with next := s.next + 1 } s1 F ι lam a _ _ hs hun hall' hs1 H' hid' (Nat.lt_succ_self _) hfr (fun a' w' hp => ⟨rfl, ?_⟩)
          obtain ⟨F2, ι2, lam2, r1, r2, r3, r4, r5⟩ := hp
          exact ⟨F2, ι2, lam2, r1, ⟨⟨r2.kept.size, r2.kept.same, r2.kept.shape, r2.kept.os, r2.kept.tape, r2.kept.output⟩, r2.io, r2.fr, r2.new, r2.own⟩, r3, r4, r5⟩
      | _ => simp [stripC] at h1
end
end Go.AM

/- AM, part 21: what an operation's effect hangs on. -/
namespace Go.AM
noncomputable section
set_option linter.unusedVariables false
set_option linter.unusedSimpArgs false

variable {e e' : Env} {h h' : Heap} {nid : Id} {dst : Option Nat} {op : VOp} {eff : Eff}

def Alike (e e' : Env) (t : Nat) : Prop := e'.get t = e.get t ∨ ∃ cs cs', e.get t = some (.box cs) ∧ e'.get t = some (.box cs')

theorem evA_alike {x : Operand} (hl : ∀ t ∈ operandTmps x, Alike e e' t) : evA e' x = evA e x := by
  cases x with
  | tmp t =>
    rcases hl t (by simp [operandTmps]) with h | ⟨cs, cs', h1, h2⟩
    · simp only [evA, h]
    · simp only [evA, h1, h2]
  | _ => rfl
theorem evS_alike {x : Operand} (hl : ∀ t ∈ operandTmps x, Alike e e' t) : evS e' x = evS e x := by
  cases x with
  | tmp t =>
    rcases hl t (by simp [operandTmps]) with h | ⟨cs, cs', h1, h2⟩
    · simp only [evS, h]
    · simp only [evS, h1, h2]
  | _ => rfl
theorem evAs_alike {xs : List Operand} (hl : ∀ t ∈ xs.flatMap operandTmps, Alike e e' t) : evAs e' xs = evAs e xs := by
  induction xs with
  | nil => rfl
  | cons x r ih =>
    simp only [List.flatMap_cons, List.mem_append] at hl
    simp only [evAs, evA_alike (fun t ht => hl t (.inl ht)), ih (fun t ht => hl t (.inr ht))]
theorem evParts_alike {xs : List (Nat × Nat × Operand)} (hl : ∀ t ∈ xs.flatMap (fun p => operandTmps p.2.2), Alike e e' t) : evParts e' xs = evParts e xs := by
  induction xs with
  | nil => rfl
  | cons x r ih =>
    simp only [List.flatMap_cons, List.mem_append] at hl
    obtain ⟨p, q, x⟩ := x
    simp only [evParts, evA_alike (x := x) (fun t ht => hl t (.inl ht)), ih (fun t ht => hl t (.inr ht))]
theorem evElems_alike {esz : Nat} {xs : List (Nat × Operand)} (hl : ∀ t ∈ xs.flatMap (fun p => operandTmps p.2), Alike e e' t) : evElems e' esz xs = evElems e esz xs := by
  induction xs with
  | nil => rfl
  | cons x r ih =>
    simp only [List.flatMap_cons, List.mem_append] at hl
    obtain ⟨p, x⟩ := x
    simp only [evElems, evA_alike (x := x) (fun t ht => hl t (.inl ht)), ih (fun t ht => hl t (.inr ht))]
theorem bnd_alike {m : Nat} {x : Option Operand} (hl : ∀ t ∈ optTmps x, Alike e e' t) : bnd e' m x = bnd e m x := by
  cases x with
  | none => rfl
  | some x => simp only [bnd, evA_alike (x := x) hl]
theorem slcOf_alike {esz : Option Nat} {a : AV} {lo hi mx : Option Operand} (h1 : ∀ t ∈ optTmps lo, Alike e e' t) (h2 : ∀ t ∈ optTmps hi, Alike e e' t) (h3 : ∀ t ∈ optTmps mx, Alike e e' t) :
    slcOf e' esz a lo hi mx = slcOf e esz a lo hi mx := by
  have h0 : ∀ t ∈ optTmps none, Alike e e' t := fun t ht => by simp [optTmps] at ht
  simp only [slcOf, slcBounds, bnd_alike h1, bnd_alike h2, bnd_alike h3, bnd_alike h0]

theorem readAt_alike {p : SV} {n : Nat} {l : List AV} {rd : List Key} (hr : readAt e h p n = some (l, rd)) (h1 : ∀ s, Key.slot s ∈ rd → e'.get s = e.get s) (h2 : ∀ i, Key.obj i ∈ rd → h'.get i = h.get i) :
    readAt e' h' p n = some (l, rd) := by
  unfold readAt at hr ⊢
  split at hr
  · split at hr
    · rename_i s off _ cs hs
      split at hr
      · rename_i l' hl
        simp only [Option.some.injEq, Prod.mk.injEq] at hr
        obtain ⟨rfl, rfl⟩ := hr
        simp only [h1 s (by simp), hs, hl]
      · cases hr
    · cases hr
  · split at hr
    · rename_i o off _ cs hs
      split at hr
      · rename_i l' hl
        simp only [Option.some.injEq, Prod.mk.injEq] at hr
        obtain ⟨rfl, rfl⟩ := hr
        simp only [h2 o (by simp), hs, hl]
      · cases hr
    · cases hr
  · exact hr
  · cases hr

theorem elems_alike {es : Nat} {a : AV} {r : List AV × Nat × List Key} (hr : elems es h a = some r) (h2 : ∀ i, Key.obj i ∈ r.2.2 → h'.get i = h.get i) : elems es h' a = some r := by
  unfold elems at hr ⊢
  split at hr
  · exact hr
  · exact hr
  · split at hr
    · rename_i o co len esz clip _ cs hs
      split at hr
      · rename_i l hl
        simp only [Option.some.injEq] at hr
        subst hr
        simp only [h2 o (by simp), hs, hl]
      · cases hr
    · cases hr
  · cases hr

theorem appendTo_alike {esz bytes n : Nat} {s : AV} {new : List AV} {rd : List Key} (hr : appendTo h nid esz bytes s new n rd = some eff) (h2 : ∀ i, Key.obj i ∈ eff.rd → h'.get i = h.get i) :
    appendTo h' nid esz bytes s new n rd = some eff := by
  unfold appendTo at hr ⊢
  cases hn : (n == 0)
  · rw [hn] at hr
    simp only [cond_false] at hr ⊢
    cases hb : (!(ones new) || !(new.length == n * esz))
    · rw [hb] at hr
      simp only [cond_false] at hr ⊢
      split at hr
      · exact hr
      · exact hr
      · rename_i o co len esz' clip
        cases hc : (esz == esz' && Nat.ble ((len + n) * bytes) 140737488355328)
        · rw [hc] at hr; cases hr
        rw [hc] at hr
        simp only [cond_true] at hr ⊢
        split at hr
        · rename_i cs hs
          cases clip
          · simp only [cond_false] at hr
            cases hd : (co == 0 && cs.length == len * esz)
            · rw [hd] at hr; cases hr
            rw [hd] at hr
            simp only [cond_true, Option.some.injEq] at hr
            subst hr
            have := h2 o (by simp)
            simp only [this, hs, hd, cond_true, cond_false]
          · simp only [cond_true] at hr
            split at hr
            · rename_i l hl
              simp only [Option.some.injEq] at hr
              subst hr
              have := h2 o (by simp)
              simp only [this, hs, hl, cond_true]
            · cases hr
        · cases hr
      · cases hr
    · rw [hb] at hr; cases hr
  · rw [hn] at hr
    simp only [cond_true] at hr ⊢
    exact hr

theorem lookupIn_rd {k : EK} {zero i : AV} {ks vs : List AV} {ok : Bool} {rd : List Key} (hr : lookupIn k zero i ks vs ok rd = some eff) : eff.rd = rd ∧ eff.wr = [] ∧ eff.put = [] ∧ eff.del = none ∧ eff.box = none ∧ ∃ a, eff.val = .v a := by
  unfold lookupIn at hr
  split at hr
  · split at hr
    · injection hr with hr; subst hr; exact ⟨rfl, rfl, rfl, rfl, rfl, _, rfl⟩
    · cases hr
  · injection hr with hr; subst hr; exact ⟨rfl, rfl, rfl, rfl, rfl, _, rfl⟩
  · cases hr

theorem aop_alike (ha : aop e h nid dst op = some eff) (hl : ∀ t ∈ op.looks, Alike e e' t) (h1 : ∀ s, Key.slot s ∈ eff.rd → e'.get s = e.get s) (h2 : ∀ i, Key.obj i ∈ eff.rd → h'.get i = h.get i)
    (hf : op.own = true → ∀ d, dst = some d → e'.free d = true) : aop e' h' nid dst op = some eff := by
  cases op with
  | move x => simpa only [aop, evS_alike hl] using ha
  | pick c a b =>
    simp only [VOp.looks, List.mem_append] at hl
    simpa only [aop, evA_alike (x := c) (fun t ht => hl t (.inl (.inl ht))), evA_alike (x := a) (fun t ht => hl t (.inl (.inr ht))), evA_alike (x := b) (fun t ht => hl t (.inr ht))] using ha
  | alloc hp z =>
    cases hp with
    | true => exact ha
    | false =>
      simp only [aop, cond_false] at ha ⊢
      split at ha
      · rename_i d
        cases hfr : e.free d
        · rw [hfr] at ha; cases ha
        · rw [hfr] at ha
          simp only [hf rfl d rfl]
          exact ha
      · cases ha
  | box hp x =>
    simp only [aop, evA_alike (x := x) hl] at ha ⊢
    split at ha
    · rename_i a hx
      cases hp with
      | true => exact ha
      | false =>
        simp only [cond_false] at ha ⊢
        split at ha
        · rename_i d
          cases hfr : e.free d
          · rw [hfr] at ha; cases ha
          · rw [hfr] at ha
            simp only [hf rfl d rfl]
            exact ha
        · cases ha
    · cases ha
  | build z ps => simpa only [aop, evParts_alike hl] using ha
  | bslice z len esz ps => simpa only [aop, evElems_alike hl] using ha
  | load n x =>
    simp only [aop, evS_alike (x := x) hl] at ha ⊢
    split at ha
    · split at ha
      · rename_i p hp l rd hr
        split at ha
        · rename_i a hs
          injection ha with ha
          subst ha
          simp only [readAt_alike hr h1 h2, hs]
        · cases ha
      · cases ha
    · cases ha
  | store n x y =>
    simp only [VOp.looks, List.mem_append] at hl
    simp only [aop, evS_alike (x := x) (fun t ht => hl t (.inl ht)), evA_alike (x := y) (fun t ht => hl t (.inr ht))] at ha ⊢
    split at ha
    · rename_i p a hp hy
      cases hb : (!((cellsOf a).length == n) || !(ones (cellsOf a)))
      · rw [hb] at ha
        simp only [cond_false] at ha ⊢
        split at ha
        · split at ha
          · rename_i s off _ cs hs
            split at ha
            · rename_i cs' hu
              injection ha with ha
              subst ha
              simp only [h1 s (by simp), hs, hu]
            · cases ha
          · cases ha
        · split at ha
          · rename_i o off _ cs hs
            split at ha
            · rename_i cs' hu
              injection ha with ha
              subst ha
              simp only [h2 o (by simp), hs, hu]
            · cases ha
          · cases ha
        · cases ha
      · rw [hb] at ha; cases ha
    · cases ha
  | nilck x => simpa only [aop, evS_alike (x := x) hl] using ha
  | bin o x y =>
    simp only [VOp.looks, List.mem_append] at hl
    simpa only [aop, evA_alike (x := x) (fun t ht => hl t (.inl ht)), evA_alike (x := y) (fun t ht => hl t (.inr ht))] using ha
  | eqv q k x y =>
    simp only [VOp.looks, List.mem_append] at hl
    simpa only [aop, evA_alike (x := x) (fun t ht => hl t (.inl ht)), evA_alike (x := y) (fun t ht => hl t (.inr ht))] using ha
  | un o x => simpa only [aop, evA_alike (x := x) hl] using ha
  | cvt c x => simpa only [aop, evA_alike (x := x) hl] using ha
  | mkfn f x y =>
    simp only [VOp.looks, List.mem_append] at hl
    simpa only [aop, evAs_alike (xs := x) (fun t ht => hl t (.inl ht)), evAs_alike (xs := y) (fun t ht => hl t (.inr ht))] using ha
  | mkmap => exact ha
  | mkslice z b x y =>
    simp only [VOp.looks, List.mem_append] at hl
    simpa only [aop, evA_alike (x := x) (fun t ht => hl t (.inl ht)), evA_alike (x := y) (fun t ht => hl t (.inr ht))] using ha
  | slc esz x lo hi mx =>
    simp only [VOp.looks, List.mem_append] at hl
    have hs : ∀ a, slcOf e' esz a lo hi mx = slcOf e esz a lo hi mx := fun a => slcOf_alike (fun t ht => hl t (.inl (.inl (.inr ht)))) (fun t ht => hl t (.inl (.inr ht))) (fun t ht => hl t (.inr ht))
    simpa only [aop, evA_alike (x := x) (fun t ht => hl t (.inl (.inl (.inl ht)))), hs] using ha
  | faddr off x => simpa only [aop, evS_alike (x := x) hl] using ha
  | fld off n x => simpa only [aop, evA_alike (x := x) hl] using ha
  | iaddr esz arr x i =>
    simp only [VOp.looks, List.mem_append] at hl
    simpa only [aop, evS_alike (x := x) (fun t ht => hl t (.inl ht)), evA_alike (x := i) (fun t ht => hl t (.inr ht))] using ha
  | idx arr x i =>
    simp only [VOp.looks, List.mem_append] at hl
    simpa only [aop, evA_alike (x := x) (fun t ht => hl t (.inl ht)), evA_alike (x := i) (fun t ht => hl t (.inr ht))] using ha
  | lookup k z x i ok =>
    simp only [VOp.looks, List.mem_append] at hl
    simp only [aop, evA_alike (x := x) (fun t ht => hl t (.inl ht)), evA_alike (x := i) (fun t ht => hl t (.inr ht))] at ha ⊢
    split at ha
    · exact ha
    · exact ha
    · split at ha
      · rename_i o i' hx hi _ ks vs born clock hs
        have := (lookupIn_rd ha).1
        simp only [h2 o (by rw [this]; simp), hs]
        exact ha
      · cases ha
    · cases ha
  | mapup k m i x =>
    simp only [VOp.looks, List.mem_append] at hl
    simp only [aop, evA_alike (x := m) (fun t ht => hl t (.inl (.inl ht))), evA_alike (x := i) (fun t ht => hl t (.inl (.inr ht))), evA_alike (x := x) (fun t ht => hl t (.inr ht))] at ha ⊢
    split at ha
    · split at ha
      · split at ha
        · rename_i o i' v hm hi hx _ ks vs born clock hs _ j hj
          injection ha with ha
          subst ha
          simp only [h2 o (by simp), hs, hj]
        · rename_i o i' v hm hi hx _ ks vs born clock hs _ hj
          injection ha with ha
          subst ha
          simp only [h2 o (by simp), hs, hj]
        · cases ha
      · cases ha
    · cases ha
  | ext x i => simpa only [aop, evA_alike (x := x) hl] using ha
  | len k x =>
    simp only [aop, evA_alike (x := x) hl] at ha ⊢
    split at ha
    · exact ha
    · exact ha
    · exact ha
    · exact ha
    · exact ha
    · split at ha
      · rename_i o hx _ ks vs born clock hs
        injection ha with ha
        subst ha
        simp only [h2 o (by simp), hs]
      · cases ha
    · exact ha
    · cases ha
  | append esz b s x =>
    simp only [VOp.looks, List.mem_append] at hl
    simp only [aop, evA_alike (x := s) (fun t ht => hl t (.inl ht)), evA_alike (x := x) (fun t ht => hl t (.inr ht))] at ha ⊢
    split at ha
    · split at ha
      · rename_i a c hs hx _ new n rd hel
        have hsub : ∀ k ∈ rd, k ∈ eff.rd := by
          intro k hk
          unfold appendTo at ha
          simp only [Bool.cond_eq_ite] at ha
          repeat' split at ha
          all_goals first
            | (cases ha; done)
            | (injection ha with ha; subst ha; first | exact hk | exact List.mem_cons_of_mem _ hk)
        simp only [elems_alike (h' := h') hel (fun i hi => h2 i (hsub _ hi))]
        exact appendTo_alike ha h2
      · cases ha
    · cases ha
  | mm q x r =>
    simp only [VOp.looks, List.mem_append] at hl
    simpa only [aop, evA_alike (x := x) (fun t ht => hl t (.inl ht)), evAs_alike (xs := r) (fun t ht => hl t (.inr ht))] using ha
  | call f args => cases ha
  | callv g args => cases ha
end
end Go.AM

/- AM, part 22: what an operation's effect touches. -/
namespace Go.AM
noncomputable section
set_option linter.unusedVariables false
set_option linter.unusedSimpArgs false

variable {e e' : Env} {h h' : Heap} {nid : Id} {dst : Option Nat} {op : VOp} {eff : Eff}

/-- What the keys tell of an effect. -/
structure Told (e : Env) (dst : Option Nat) (op : VOp) (eff : Eff) : Prop where
  box : ∀ q cs, eff.box = some (q, cs) → .slot q ∈ eff.wr ∧ ∃ ds, e.get q = some (.box ds)
  rbox : ∀ q, .slot q ∈ eff.rd → ∃ ds, e.get q = some (.box ds)
  put : ∀ p ∈ eff.put, .obj p.1 ∈ eff.wr
  del : ∀ q, eff.del = some q → .obj q ∈ eff.wr
  heapr : .heap ∉ eff.rd
  heapw : .heap ∉ eff.wr
  vbox : ∀ cs, eff.val = .box cs → op.own = true
  vlead : ∀ q off, eff.val = .lptr q off → .lead q ∈ eff.rd
  own : op.own = true → ∀ d, dst = some d → .slot d ∈ eff.wr ∧ .lead d ∈ eff.wr ∧ e.free d = true
  wlead : op.own = false → ∀ q, .lead q ∉ eff.wr
  tch : ∀ o : VO, o.op = op → (hands o = false → ∀ q, .lead q ∉ eff.rd) ∧ (touch o = 0 → eff.wr = [] ∧ ∀ k ∈ eff.rd, ∃ q, k = .lead q) ∧ (touch o = 1 → eff.wr = [])

/-- An effect that neither writes nor hands on. -/
theorem Told.plain (hb : eff.box = none) (hr : ∀ q, .slot q ∈ eff.rd → ∃ ds, e.get q = some (.box ds)) (hp : eff.put = []) (hd : eff.del = none) (hw : eff.wr = []) (hv : ∃ a, eff.val = .v a) (ho : op.own = false)
    (hh : .heap ∉ eff.rd) (hl : ∀ q, .lead q ∉ eff.rd) (ht : ∀ o : VO, o.op = op → touch o = 0 → eff.rd = []) : Told e dst op eff := by
  obtain ⟨a, ha⟩ := hv
  refine ⟨by simp [hb], hr, by simp [hp], by simp [hd], hh, by simp [hw], by simp [ha], by simp [ha], by simp [ho], by simp [hw], fun o hop => ⟨fun _ => hl, fun h0 => ⟨hw, fun k hk => ?_⟩, fun _ => hw⟩⟩
  rw [ht o hop h0] at hk
  cases hk

/-- An effect that hands on a pointer. -/
theorem Told.hand {p : SV} (hop : op.own = false) (hh : ∀ o : VO, o.op = op → hands o = true) (hp : ∀ cs, p ≠ .box cs) : Told e dst op { val := p, rd := ptrKey p } := by
  have hk : ∀ k ∈ ptrKey p, ∃ q off, k = .lead q ∧ p = .lptr q off := by
    intro k hk
    unfold ptrKey at hk
    split at hk
    · simp at hk; exact ⟨_, _, hk, rfl⟩
    · cases hk
  refine ⟨by simp, fun q hq => ?_, by simp, by simp, fun hq => ?_, by simp, fun cs hv => absurd hv (hp cs), fun q off hv => ?_, by simp [hop], by simp, fun o ho => ⟨fun h0 => ?_, fun _ => ⟨rfl, fun k hk' => ?_⟩, fun _ => rfl⟩⟩
  · obtain ⟨q', off, h1, _⟩ := hk _ hq; cases h1
  · obtain ⟨q', off, h1, _⟩ := hk _ hq; cases h1
  · simp only at hv; subst hv; simp [ptrKey]
  · rw [hh o ho] at h0; cases h0
  · obtain ⟨q', off, h1, _⟩ := hk _ hk'; exact ⟨q', h1⟩

/-- An effect that writes objects of the heap alone. -/
theorem Told.made {o : VOp} {v : AV} {put : List (Id × AObj)} {del : Option Id} {rd wr : List Key} (hp : ∀ p ∈ put, .obj p.1 ∈ wr) (hd : ∀ q, del = some q → .obj q ∈ wr) (hw : ∀ k ∈ wr, ∃ q, k = .obj q)
    (hr : ∀ k ∈ rd, (∃ q, k = .obj q) ∨ ∃ s ds, k = .slot s ∧ e.get s = some (.box ds)) (ho : o.own = false) (ht : ∀ x : VO, x.op = o → touch x = 2) : Told e dst o { val := .v v, put, del, rd, wr } := by
  refine ⟨by simp, fun q hq => ?_, hp, hd, fun hq => ?_, fun hq => ?_, by simp, by simp, by simp [ho], fun _ q hq => ?_, fun x hx => ⟨fun _ q hq => ?_, fun h0 => ?_, fun h0 => ?_⟩⟩
  · rcases hr _ hq with ⟨q', h1⟩ | ⟨s, ds, h1, h2⟩
    · cases h1
    · injection h1 with h1; subst h1; exact ⟨ds, h2⟩
  · rcases hr _ hq with ⟨q', h1⟩ | ⟨s, ds, h1, h2⟩
    · cases h1
    · cases h1
  · obtain ⟨q', h1⟩ := hw _ hq; cases h1
  · obtain ⟨q', h1⟩ := hw _ hq; cases h1
  · rcases hr _ hq with ⟨q', h1⟩ | ⟨s, ds, h1, h2⟩
    · cases h1
    · cases h1
  · rw [ht x hx] at h0; cases h0
  · rw [ht x hx] at h0; cases h0

theorem readAt_rd {p : SV} {n : Nat} {l : List AV} {rd : List Key} (hr : readAt e h p n = some (l, rd)) : ∀ k ∈ rd, (∃ q, k = .obj q) ∨ ∃ s ds, k = .slot s ∧ e.get s = some (.box ds) := by
  unfold readAt at hr
  split at hr
  · split at hr
    · rename_i s off _ cs hs
      split at hr
      · simp only [Option.some.injEq, Prod.mk.injEq] at hr
        obtain ⟨_, rfl⟩ := hr
        intro k hk
        simp at hk
        exact .inr ⟨s, cs, hk, hs⟩
      · cases hr
    · cases hr
  · split at hr
    · split at hr
      · simp only [Option.some.injEq, Prod.mk.injEq] at hr
        obtain ⟨_, rfl⟩ := hr
        intro k hk
        simp at hk
        exact .inl ⟨_, hk⟩
      · cases hr
    · cases hr
  · split at hr
    · simp only [Option.some.injEq, Prod.mk.injEq] at hr
      obtain ⟨_, rfl⟩ := hr
      intro k hk
      cases hk
    · cases hr
  · cases hr

theorem elems_rd {es : Nat} {a : AV} {r : List AV × Nat × List Key} (hr : elems es h a = some r) : ∀ k ∈ r.2.2, ∃ q, k = .obj q := by
  unfold elems at hr
  split at hr
  · injection hr with hr; subst hr; intro k hk; cases hk
  · split at hr
    · injection hr with hr; subst hr; intro k hk; cases hk
    · cases hr
  · split at hr
    · split at hr
      · injection hr with hr; subst hr; intro k hk; simp at hk; exact ⟨_, hk⟩
      · cases hr
    · cases hr
  · cases hr

theorem evS_nobox {x : Operand} {p : SV} (hp : evS e x = some p) : ∀ cs, p ≠ .box cs := by
  intro cs hh
  subst hh
  cases x with
  | tmp t =>
    simp only [evS] at hp
    split at hp <;> simp at hp
  | _ =>
    simp only [evS] at hp
    split at hp <;> simp at hp

theorem shiftP_nobox {n : Nat} {p q : SV} (hp : shiftP n p = some q) : ∀ cs, q ≠ .box cs := by
  intro cs hh
  subst hh
  unfold shiftP at hp
  split at hp <;> simp at hp


theorem objs1 {a : Id} : ∀ k ∈ [Key.obj a], ∃ q, k = .obj q := fun k hk => ⟨a, by simpa using hk⟩
theorem objs2 {a b : Id} : ∀ k ∈ [Key.obj a, Key.obj b], ∃ q, k = .obj q := fun k hk => by
  simp only [List.mem_cons, List.not_mem_nil, or_false] at hk
  rcases hk with rfl | rfl <;> exact ⟨_, rfl⟩
theorem nors : ∀ k ∈ ([] : List Key), (∃ q, k = .obj q) ∨ ∃ s ds, k = .slot s ∧ e.get s = some (.box ds) := fun k hk => by cases hk
theorem nors1 {a : Id} : ∀ k ∈ [Key.obj a], (∃ q, k = .obj q) ∨ ∃ s ds, k = .slot s ∧ e.get s = some (.box ds) := fun k hk => .inl ⟨a, by simpa using hk⟩

theorem aop_told (ha : aop e h nid dst op = some eff) : Told e dst op eff := by
  have plainv : ∀ {a : AV}, op.own = false → Told e dst op { val := .v a } := fun ho =>
    Told.plain rfl (by simp) rfl rfl rfl ⟨_, rfl⟩ ho (by simp) (by simp) (fun _ _ _ => rfl)
  cases op with
  | move x =>
    simp only [aop] at ha
    split at ha
    · rename_i s hs
      injection ha with ha; subst ha
      exact Told.hand rfl (fun o ho => by simp [hands, ho]) (evS_nobox hs)
    · cases ha
  | nilck x =>
    simp only [aop] at ha
    split at ha
    · rename_i p hs
      cases hn : notNil p
      · simp [hn] at ha
      · simp only [hn, cond_true, Option.some.injEq] at ha
        subst ha
        exact Told.hand rfl (fun o ho => by simp [hands, ho]) (evS_nobox hs)
    · cases ha
  | faddr off x =>
    simp only [aop] at ha
    split at ha
    · split at ha
      · rename_i q hq
        injection ha with ha; subst ha
        exact Told.hand rfl (fun o ho => by simp [hands, ho]) (shiftP_nobox hq)
      · cases ha
    · cases ha
  | alloc hp z =>
    cases hp with
    | true =>
      simp only [aop, cond_true, Option.some.injEq] at ha
      subst ha
      exact Told.made (by simp) (by simp) (by first | exact objs1 | exact objs2) (by first | exact nors | exact nors1) rfl (fun x hx => by simp [touch, hx])
    | false =>
      simp only [aop, cond_false] at ha
      split at ha
      · rename_i d
        cases hfr : e.free d
        · simp [hfr] at ha
        · simp only [hfr, cond_true, Option.some.injEq] at ha
          subst ha
          refine ⟨by simp, by simp, by simp, by simp, by simp, by simp, fun _ _ => rfl, by simp, fun _ d' hd' => ?_, by simp [VOp.own], fun x hx => ⟨by simp, by simp [touch, hx], by simp [touch, hx]⟩⟩
          injection hd' with hd'; subst hd'; exact ⟨by simp, by simp, hfr⟩
      · cases ha
  | box hp x =>
    simp only [aop] at ha
    split at ha
    · cases hp with
      | true =>
        simp only [cond_true, Option.some.injEq] at ha
        subst ha
        exact Told.made (by simp) (by simp) (by first | exact objs1 | exact objs2) (by first | exact nors | exact nors1) rfl (fun x hx => by simp [touch, hx])
      | false =>
        simp only [cond_false] at ha
        split at ha
        · rename_i d
          cases hfr : e.free d
          · simp [hfr] at ha
          · simp only [hfr, cond_true, Option.some.injEq] at ha
            subst ha
            refine ⟨by simp, by simp, by simp, by simp, by simp, by simp, fun _ _ => rfl, by simp, fun _ d' hd' => ?_, by simp [VOp.own], fun x hx => ⟨by simp, by simp [touch, hx], by simp [touch, hx]⟩⟩
            injection hd' with hd'; subst hd'; exact ⟨by simp, by simp, hfr⟩
        · cases ha
    · cases ha
  | bslice z len esz ps =>
    simp only [aop] at ha
    split at ha
    · split at ha
      · injection ha with ha; subst ha
        exact Told.made (by simp) (by simp) (by first | exact objs1 | exact objs2) (by first | exact nors | exact nors1) rfl (fun x hx => by simp [touch, hx])
      · cases ha
    · cases ha
  | load n x =>
    simp only [aop] at ha
    split at ha
    · split at ha
      · rename_i p hp l rd hr
        split at ha
        · injection ha with ha; subst ha
          have hrd := readAt_rd hr
          refine Told.plain rfl (fun q hq => ?_) rfl rfl rfl ⟨_, rfl⟩ rfl (fun hq => ?_) (fun q hq => ?_) (fun o ho h0 => by simp [touch, ho] at h0)
          · rcases hrd _ hq with ⟨q', h1⟩ | ⟨s, ds, h1, h2⟩
            · cases h1
            · injection h1 with h1; subst h1; exact ⟨ds, h2⟩
          · rcases hrd _ hq with ⟨q', h1⟩ | ⟨s, ds, h1, h2⟩ <;> cases h1
          · rcases hrd _ hq with ⟨q', h1⟩ | ⟨s, ds, h1, h2⟩ <;> cases h1
        · cases ha
      · cases ha
    · cases ha
  | store n x y =>
    simp only [aop] at ha
    split at ha
    · cases hb : (!((cellsOf _).length == n) || !(ones (cellsOf _)))
      · rw [hb] at ha
        simp only [cond_false] at ha
        split at ha
        · split at ha
          · rename_i s off _ cs hs
            split at ha
            · rename_i cs' hu
              injection ha with ha; subst ha
              refine ⟨fun q ds hq => ?_, fun q hq => ?_, by simp, by simp, by simp, by simp, by simp, by simp, by simp [VOp.own], by simp, fun o ho => ⟨by simp, by simp [touch, ho], by simp [touch, ho]⟩⟩
              · simp only [Option.some.injEq, Prod.mk.injEq] at hq
                obtain ⟨rfl, _⟩ := hq
                exact ⟨by simp, cs, hs⟩
              · simp at hq; subst hq; exact ⟨cs, hs⟩
            · cases ha
          · cases ha
        · split at ha
          · split at ha
            · injection ha with ha; subst ha
              exact Told.made (by simp) (by simp) (by first | exact objs1 | exact objs2) (by first | exact nors | exact nors1) rfl (fun x hx => by simp [touch, hx])
            · cases ha
          · cases ha
        · cases ha
      · rw [hb] at ha; cases ha
    · cases ha
  | cvt c x =>
    simp only [aop] at ha
    split at ha
    · injection ha with ha; subst ha; exact plainv rfl
    · injection ha with ha; subst ha; exact plainv rfl
    · simp only [Bool.cond_eq_ite] at ha
      split at ha
      · cases ha
      · injection ha with ha; subst ha
        exact Told.made (by simp) (by simp) (by first | exact objs1 | exact objs2) (by first | exact nors | exact nors1) rfl (fun x hx => by simp [touch, hx])
    · cases ha
  | mkmap =>
    simp only [aop, Option.some.injEq] at ha
    subst ha
    exact Told.made (by simp) (by simp) (by first | exact objs1 | exact objs2) (by first | exact nors | exact nors1) rfl (fun x hx => by simp [touch, hx])
  | mkslice z b l c =>
    simp only [aop] at ha
    split at ha
    · simp only [Bool.cond_eq_ite] at ha
      split at ha
      · injection ha with ha; subst ha
        exact Told.made (by simp) (by simp) (by first | exact objs1 | exact objs2) (by first | exact nors | exact nors1) rfl (fun x hx => by simp [touch, hx])
      · cases ha
    · cases ha
  | iaddr esz arr x i =>
    simp only [aop] at ha
    split at ha
    · simp only [Bool.cond_eq_ite] at ha
      split at ha
      · injection ha with ha; subst ha; exact plainv rfl
      · cases ha
    · simp only [Bool.cond_eq_ite] at ha
      split at ha
      · injection ha with ha; subst ha; exact plainv rfl
      · cases ha
    · simp only [Bool.cond_eq_ite] at ha
      split at ha
      · split at ha
        · rename_i q hq
          injection ha with ha; subst ha
          exact Told.hand rfl (fun o ho => by simp [hands, ho]) (shiftP_nobox hq)
        · cases ha
      · cases ha
    · cases ha
  | lookup k z x i ok =>
    simp only [aop] at ha
    have fin : ∀ {ks vs : List AV} {i' : AV} {rd : List Key}, (∀ k ∈ rd, ∃ q, k = Key.obj q) → lookupIn k z i' ks vs ok rd = some eff → Told e dst (.lookup k z x i ok) eff := by
      intro ks vs i' rd hrd hr
      obtain ⟨h1, h2, h3, h4, h5, h6⟩ := lookupIn_rd hr
      refine Told.plain h5 (fun q hq => ?_) h3 h4 h2 h6 rfl (fun hq => ?_) (fun q hq => ?_) (fun o ho h0 => by simp [touch, ho] at h0)
      · rw [h1] at hq; obtain ⟨_, hh⟩ := hrd _ hq; cases hh
      · rw [h1] at hq; obtain ⟨_, hh⟩ := hrd _ hq; cases hh
      · rw [h1] at hq; obtain ⟨_, hh⟩ := hrd _ hq; cases hh
    split at ha
    · simp only [Bool.cond_eq_ite] at ha
      split at ha
      · injection ha with ha; subst ha; exact plainv rfl
      · cases ha
    · exact fin (by simp) ha
    · split at ha
      · exact fin objs1 ha
      · cases ha
    · cases ha
  | mapup k m i x =>
    simp only [aop] at ha
    split at ha
    · split at ha
      · split at ha
        · injection ha with ha; subst ha
          exact Told.made (by simp) (by simp) (by first | exact objs1 | exact objs2) (by first | exact nors | exact nors1) rfl (fun x hx => by simp [touch, hx])
        · injection ha with ha; subst ha
          exact Told.made (by simp) (by simp) (by first | exact objs1 | exact objs2) (by first | exact nors | exact nors1) rfl (fun x hx => by simp [touch, hx])
        · cases ha
      · cases ha
    · cases ha
  | len k x =>
    simp only [aop] at ha
    split at ha
    · injection ha with ha; subst ha; exact plainv rfl
    · injection ha with ha; subst ha; exact plainv rfl
    · injection ha with ha; subst ha; exact plainv rfl
    · injection ha with ha; subst ha; exact plainv rfl
    · injection ha with ha; subst ha; exact plainv rfl
    · split at ha
      · injection ha with ha; subst ha
        exact Told.plain rfl (by simp) rfl rfl rfl ⟨_, rfl⟩ rfl (by simp) (by simp) (fun o ho h0 => by simp [touch, ho] at h0)
      · cases ha
    · injection ha with ha; subst ha; exact plainv rfl
    · cases ha
  | append esz b s x =>
    simp only [aop] at ha
    split at ha
    · split at ha
      · rename_i a c hs hx _ new n rd hel
        have hrd := elems_rd hel
        unfold appendTo at ha
        simp only [Bool.cond_eq_ite] at ha
        repeat' split at ha
        all_goals first
          | (cases ha; done)
          | (injection ha with ha; subst ha
             refine Told.made (by simp) (by simp) (by first | exact objs1 | exact objs2 | simp) (fun k hk => .inl ?_) rfl (fun x hx => by simp [touch, hx])
             first
               | exact hrd k hk
               | (rcases List.mem_cons.1 hk with rfl | hk
                  · exact ⟨_, rfl⟩
                  · exact hrd k hk))
      · cases ha
    · cases ha
  | call f args => cases ha
  | callv g args => cases ha
  | _ =>
    simp only [aop, Bool.cond_eq_ite] at ha
    repeat' split at ha
    all_goals first
      | (cases ha; done)
      | (injection ha with ha; subst ha; exact plainv rfl)
end
end Go.AM

/- AM, part 23: two operations that leave each other alone may stand in either order. -/
namespace Go.AM
noncomputable section
set_option linter.unusedVariables false
set_option linter.unusedSimpArgs false
set_option linter.unusedSimpArgs false

theorem Tr.set_comm {α : Type} : ∀ (ks : List Bool) (t : Tr α) (js : List Bool) (u v : Option α), ks ≠ js → (t.set ks u).set js v = (t.set js v).set ks u
  | [], t, [], u, v, h => absurd rfl h
  | [], t, c :: js, u, v, h => by cases t <;> cases c <;> simp [Tr.set_ln, Tr.set_nn, Tr.set_lc, Tr.set_nc]
  | b :: ks, t, [], u, v, h => by cases t <;> cases b <;> simp [Tr.set_ln, Tr.set_nn, Tr.set_lc, Tr.set_nc]
  | b :: ks, t, c :: js, u, v, h => by
    cases t <;> cases b <;> cases c <;> simp only [Tr.set_ln, Tr.set_nn, Tr.set_lc, Tr.set_nc, cond_true, cond_false]
    · rw [Tr.set_comm ks _ js u v (fun hh => h (by rw [hh]))]
    · rw [Tr.set_comm ks _ js u v (fun hh => h (by rw [hh]))]
    · rw [Tr.set_comm ks _ js u v (fun hh => h (by rw [hh]))]
    · rw [Tr.set_comm ks _ js u v (fun hh => h (by rw [hh]))]
theorem Tr.set_set {α : Type} : ∀ (ks : List Bool) (t : Tr α) (u v : Option α), (t.set ks u).set ks v = t.set ks v
  | [], t, u, v => by cases t <;> simp [Tr.set_ln, Tr.set_nn, Tr.set_lc, Tr.set_nc]
  | b :: ks, t, u, v => by cases t <;> cases b <;> simp [Tr.set_ln, Tr.set_nn, Tr.set_lc, Tr.set_nc, Tr.set_set ks]
theorem Env.put_comm (e : Env) {s t : Nat} (hst : s ≠ t) (u v : SV) : (e.put s u).put t v = (e.put t v).put s u :=
  Tr.set_comm _ _ _ _ _ (fun hh => hst (bits_inj hh))
theorem Heap.set_comm (e : Heap) {s t : Id} (hst : s ≠ t) (u v : Option AObj) : (e.set s u).set t v = (e.set t v).set s u := by
  obtain ⟨s1, s2⟩ := s
  obtain ⟨t1, t2⟩ := t
  simp only [Heap.set]
  by_cases h1 : s1 = t1
  · subst h1
    have hb : bits s2 ≠ bits t2 := fun hh => hst (by rw [bits_inj hh])
    simp only [Heap.row, Tr.get_set, if_true, Tr.set_set]
    rw [Tr.set_comm _ _ _ u v hb]
  · have hb : bits s1 ≠ bits t1 := fun hh => h1 (bits_inj hh)
    simp only [Heap.row, Tr.get_set, if_neg hb, if_neg (Ne.symm hb)]
    rw [Tr.set_comm _ _ _ _ _ hb]

/-! ### a step as a change -/
def Heap.sets : Heap → List (Id × Option AObj) → Heap
  | h, [] => h
  | h, (i, o) :: r => Heap.sets (h.set i o) r
theorem Heap.sets_set (ps : List (Id × Option AObj)) : ∀ (h : Heap) (i : Id) (o : Option AObj), (∀ p ∈ ps, p.1 ≠ i) → (h.set i o).sets ps = (h.sets ps).set i o := by
  induction ps with
  | nil => intros; rfl
  | cons p r ih =>
    intro h i o hp
    obtain ⟨j, u⟩ := p
    simp only [Heap.sets]
    rw [Heap.set_comm h (Ne.symm (hp _ (.head _))), ih _ _ _ (fun p hp' => hp p (.tail _ hp'))]
theorem Heap.sets_comm (ps qs : List (Id × Option AObj)) : ∀ (h : Heap), (∀ p ∈ ps, ∀ q ∈ qs, p.1 ≠ q.1) → (h.sets ps).sets qs = (h.sets qs).sets ps := by
  induction ps with
  | nil => intros; rfl
  | cons p r ih =>
    intro h hp
    obtain ⟨j, u⟩ := p
    simp only [Heap.sets]
    rw [ih _ (fun p hp' q hq => hp p (.tail _ hp') q hq), Heap.sets_set qs h j u (fun q hq => Ne.symm (hp _ (.head _) q hq))]
theorem Heap.get_sets (ps : List (Id × Option AObj)) : ∀ (h : Heap) (i : Id), (∀ p ∈ ps, p.1 ≠ i) → (h.sets ps).get i = h.get i := by
  induction ps with
  | nil => intros; rfl
  | cons p r ih =>
    intro h i hp
    obtain ⟨j, u⟩ := p
    simp only [Heap.sets]
    rw [ih _ _ (fun p hp' => hp p (.tail _ hp')), Heap.get_set, if_neg (Ne.symm (hp _ (.head _)))]
theorem Heap.puts_sets (ps : List (Id × AObj)) : ∀ h : Heap, h.puts ps = h.sets (ps.map fun p => (p.1, some p.2)) := by
  induction ps with
  | nil => intro h; rfl
  | cons p r ih => intro h; obtain ⟨i, o⟩ := p; simp only [Heap.puts, List.map_cons, Heap.sets, ih]; rfl

/-- What a step does to any state. -/
structure Dl where
  box : Option (Nat × List AV)
  val : SV
  sets : List (Id × Option AObj)
  all : Option (Heap × Nat)
def Dl.run (D : Dl) (dst : Option Nat) (s : St) : St :=
  { env := (match D.box with
      | some (q, cs) => s.env.put q (.box cs)
      | none => s.env).putO dst D.val
    heap := match D.all with
      | some (h, _) => h
      | none => s.heap.sets D.sets
    next := match D.all with
      | some (_, n) => n
      | none => s.next }

/-- Where a step does the same. -/
structure Same (o : VO) (f : Foot) (s t : St) : Prop where
  looks : ∀ q ∈ o.looks, Alike s.env t.env q
  slot : ∀ q, .slot q ∈ f.1 → t.env.get q = s.env.get q
  obj : ∀ i, .obj i ∈ f.1 → t.heap.get i = s.heap.get i
  heap : .heap ∈ f.1 → t.heap = s.heap
  next : .heap ∈ f.2 → t.next = s.next
  free : o.op.own = true → ∀ d, o.dst = some d → t.env.free d = true

structure IsDl (call : CallF) (nid : Id) (o : VO) (s s1 : St) (f : Foot) (D : Dl) : Prop where
  eq : s1 = D.run o.dst s
  same : ∀ t, Same o f s t → step1 call nid o t = some (D.run o.dst t, f)
  box : ∀ q cs, D.box = some (q, cs) → .slot q ∈ f.2 ∧ ∃ ds, s.env.get q = some (.box ds)
  rbox : ∀ q, .slot q ∈ f.1 → ∃ ds, s.env.get q = some (.box ds)
  sets : ∀ p ∈ D.sets, .obj p.1 ∈ f.2
  all : ∀ x, D.all = some x → .heap ∈ f.1 ∧ .heap ∈ f.2
  vbox : ∀ cs, D.val = .box cs → o.op.own = true
  vlead : ∀ q off, D.val = .lptr q off → .lead q ∈ f.1
  own : o.op.own = true → ∀ d, o.dst = some d → .slot d ∈ f.2 ∧ .lead d ∈ f.2
  wlead : o.op.own = false → ∀ q, .lead q ∉ f.2
  tch : (hands o = false → ∀ q, .lead q ∉ f.1) ∧ (touch o = 0 → f.2 = [] ∧ ∀ k ∈ f.1, ∃ q, k = .lead q) ∧ (touch o = 1 → f.2 = [])

theorem wantedA_alike {e e' : Env} {g : Option (Nat × Bool)} (hl : ∀ d w, g = some (d, w) → Alike e e' d) : wantedA e' g = wantedA e g := by
  cases g with
  | none => rfl
  | some p =>
    obtain ⟨d, w⟩ := p
    rcases hl d w rfl with h | ⟨cs, cs', h1, h2⟩
    · simp only [wantedA, h]
    · simp only [wantedA, h1, h2]

theorem target_alike {e e' : Env} {g : Operand} (hl : ∀ t ∈ operandTmps g, Alike e e' t) (args : List AV) : target e' g args = target e g args := by
  simp only [target, evA_alike hl]

theorem flatK_obj {f : AV → List Key} (hf : ∀ a, ∀ k ∈ f a, ∃ i, k = .obj i) : ∀ (l : List AV), ∀ k ∈ flatK f l, ∃ i, k = Key.obj i
  | [], k, hk => by cases hk
  | a :: r, k, hk => by
    simp only [flatK, List.mem_append] at hk
    rcases hk with hk | hk
    · exact hf a k hk
    · exact flatK_obj hf r k hk
theorem purK_obj : ∀ (n : Nat) (h : Heap) (a : AV), ∀ k ∈ purK n h a, ∃ i, k = Key.obj i := by
  intro n
  induction n with
  | zero => intro h a k hk; cases hk
  | succ n ih =>
    intro h a k hk
    have fl := flatK_obj (f := purK n h) (ih h)
    cases a with
    | ptr o off =>
      simp only [purK, List.mem_cons] at hk
      rcases hk with rfl | hk
      · exact ⟨o, rfl⟩
      · split at hk
        · exact fl _ k hk
        · cases hk
    | slice o co len esz clip =>
      simp only [purK, List.mem_cons] at hk
      rcases hk with rfl | hk
      · exact ⟨o, rfl⟩
      · split at hk
        · split at hk
          · exact fl _ k hk
          · cases hk
        · cases hk
    | map o =>
      simp only [purK, List.mem_cons] at hk
      rcases hk with rfl | hk
      · exact ⟨o, rfl⟩
      · split at hk
        · rcases List.mem_append.1 hk with hk | hk
          · exact fl _ k hk
          · exact fl _ k hk
        · cases hk
    | agg cs => exact fl _ k hk
    | tuple cs => exact fl _ k hk
    | func fn x y =>
      simp only [purK, List.mem_append] at hk
      rcases hk with hk | hk
      · exact fl _ k hk
      · exact fl _ k hk
    | _ => cases hk

theorem mapO_same {f g : AV → Option AV} {K : AV → List Key} {p : Key → Prop} (hfg : ∀ a, (∀ k ∈ K a, p k) → f a = g a) : ∀ (l : List AV), (∀ k ∈ flatK K l, p k) → mapO f l = mapO g l
  | [], _ => rfl
  | a :: r, h => by
    simp only [flatK, List.mem_append] at h
    simp only [mapO, hfg a (fun k hk => h k (.inl hk)), mapO_same hfg r (fun k hk => h k (.inr hk))]
theorem pur_same {h h' : Heap} : ∀ (n : Nat) (a : AV), (∀ k ∈ purK n h a, ∀ i, k = .obj i → h'.get i = h.get i) → pur n h' a = pur n h a := by
  intro n
  induction n with
  | zero => intros; rfl
  | succ n ih =>
    intro a hk
    have ms : ∀ (l : List AV), (∀ k ∈ flatK (purK n h) l, ∀ i, k = Key.obj i → h'.get i = h.get i) → mapO (pur n h') l = mapO (pur n h) l := fun l hl => mapO_same (p := fun k => ∀ i, k = Key.obj i → h'.get i = h.get i) ih l hl
    cases a with
    | ptr o off =>
      simp only [purK, List.mem_cons] at hk
      simp only [pur, hk _ (.inl rfl) o rfl]
      cases ho : h.get o with
      | none => rfl
      | some x => cases x with
        | cells cs => simp only; rw [ms cs (fun k hk' => hk k (.inr (by rw [ho]; exact hk')))]
        | map => rfl
    | slice o co len esz clip =>
      simp only [purK, List.mem_cons] at hk
      simp only [pur, hk _ (.inl rfl) o rfl]
      cases ho : h.get o with
      | none => rfl
      | some x => cases x with
        | cells cs =>
          simp only
          cases hs : sub cs co (len * esz) with
          | none => rfl
          | some l => simp only; rw [ms l (fun k hk' => hk k (.inr (by rw [ho]; simp only [hs]; exact hk')))]
        | map => rfl
    | map o =>
      simp only [purK, List.mem_cons] at hk
      simp only [pur, hk _ (.inl rfl) o rfl]
      cases ho : h.get o with
      | none => rfl
      | some x => cases x with
        | cells cs => rfl
        | map ks vs born clock =>
          simp only
          rw [ms ks (fun k hk' => hk k (.inr (by rw [ho]; exact List.mem_append_left _ hk'))), ms vs (fun k hk' => hk k (.inr (by rw [ho]; exact List.mem_append_right _ hk')))]
    | agg cs => simp only [pur]; rw [ms cs hk]
    | tuple cs => simp only [pur]; rw [ms cs hk]
    | func fn x y =>
      simp only [purK, List.mem_append] at hk
      simp only [pur]
      rw [ms x (fun k hk' => hk k (.inl hk')), ms y (fun k hk' => hk k (.inr hk'))]
    | _ => rfl
theorem purs_same {h h' : Heap} {n : Nat} {l : List AV} (hk : ∀ i, Key.obj i ∈ flatK (purK n h) l → h'.get i = h.get i) : mapO (pur n h') l = mapO (pur n h) l :=
  mapO_same (p := fun k => ∀ i, k = Key.obj i → h'.get i = h.get i) (fun a ha => pur_same n a ha) l (fun k hk' i hi => hk i (hi ▸ hk'))

theorem flatK_same {f g : AV → List Key} {p : Key → Prop} (hfg : ∀ a, (∀ k ∈ f a, p k) → g a = f a) : ∀ (l : List AV), (∀ k ∈ flatK f l, p k) → flatK g l = flatK f l
  | [], _ => rfl
  | a :: r, h => by
    simp only [flatK, List.mem_append] at h
    simp only [flatK, hfg a (fun k hk => h k (.inl hk)), flatK_same hfg r (fun k hk => h k (.inr hk))]
theorem purK_same {h h' : Heap} : ∀ (n : Nat) (a : AV), (∀ k ∈ purK n h a, ∀ i, k = .obj i → h'.get i = h.get i) → purK n h' a = purK n h a := by
  intro n
  induction n with
  | zero => intros; rfl
  | succ n ih =>
    intro a hk
    have ms : ∀ (l : List AV), (∀ k ∈ flatK (purK n h) l, ∀ i, k = Key.obj i → h'.get i = h.get i) → flatK (purK n h') l = flatK (purK n h) l := fun l hl => flatK_same (p := fun k => ∀ i, k = Key.obj i → h'.get i = h.get i) ih l hl
    cases a with
    | ptr o off =>
      simp only [purK, List.mem_cons] at hk
      simp only [purK, hk _ (.inl rfl) o rfl]
      cases ho : h.get o with
      | none => rfl
      | some x => cases x with
        | cells cs => simp only; rw [ms cs (fun k hk' => hk k (.inr (by rw [ho]; exact hk')))]
        | map => rfl
    | slice o co len esz clip =>
      simp only [purK, List.mem_cons] at hk
      simp only [purK, hk _ (.inl rfl) o rfl]
      cases ho : h.get o with
      | none => rfl
      | some x => cases x with
        | cells cs =>
          simp only
          cases hs : sub cs co (len * esz) with
          | none => rfl
          | some l => simp only; rw [ms l (fun k hk' => hk k (.inr (by rw [ho]; simp only [hs]; exact hk')))]
        | map => rfl
    | map o =>
      simp only [purK, List.mem_cons] at hk
      simp only [purK, hk _ (.inl rfl) o rfl]
      cases ho : h.get o with
      | none => rfl
      | some x => cases x with
        | cells cs => rfl
        | map ks vs born clock =>
          simp only
          rw [ms ks (fun k hk' => hk k (.inr (by rw [ho]; exact List.mem_append_left _ hk'))), ms vs (fun k hk' => hk k (.inr (by rw [ho]; exact List.mem_append_right _ hk')))]
    | agg cs => simp only [purK]; rw [ms cs hk]
    | tuple cs => simp only [purK]; rw [ms cs hk]
    | func fn x y =>
      simp only [purK, List.mem_append] at hk
      simp only [purK]
      rw [ms x (fun k hk' => hk k (.inl hk')), ms y (fun k hk' => hk k (.inr hk'))]
    | _ => rfl
theorem flatK_purK_same {h h' : Heap} {n : Nat} (l : List AV) (hk : ∀ i, Key.obj i ∈ flatK (purK n h) l → h'.get i = h.get i) : flatK (purK n h') l = flatK (purK n h) l :=
  flatK_same (p := fun k => ∀ i, k = Key.obj i → h'.get i = h.get i) (fun a ha => purK_same n a ha) l (fun k hk' i hi => hk i (hi ▸ hk'))

theorem callM_heapless {call : CallF} {m : Mode} {nid : Id} {f : FuncId} {args : List AV} {h : Heap} {N : Nat} {r : AV} {h1 : Heap} {n1 : Nat} (hc : callM call m nid f args h N = some (r, h1, n1)) :
    (m = .pure → h1 = h ∧ n1 = N ∧ ∀ h' N', callM call m nid f args h' N' = some (r, h', N')) ∧ (m = .view → h1 = h ∧ n1 = N ∧ ∀ h' N', (∀ i, Key.obj i ∈ flatK (purK purLimit h) args → h'.get i = h.get i) → callM call m nid f args h' N' = some (r, h', N')) ∧
    (m = .fresh → n1 = N ∧ ∃ ps : List (Id × Option AObj), (∀ p ∈ ps, p.1 = nid) ∧ h1 = h.sets ps ∧ ∀ h' N', callM call m nid f args h' N' = some (r, h'.sets ps, N')) ∧
    (m = .vfresh → n1 = N ∧ ∃ ps : List (Id × Option AObj), (∀ p ∈ ps, p.1 = nid) ∧ h1 = h.sets ps ∧ ∀ h' N', (∀ i, Key.obj i ∈ flatK (purK purLimit h) args → h'.get i = h.get i) → callM call m nid f args h' N' = some (r, h'.sets ps, N')) := by
  refine ⟨fun hm => ?_, fun hm => ?_, fun hm => ?_, fun hm => ?_⟩
  · subst hm
    simp only [callM] at hc ⊢
    cases hst : stills args
    · rw [hst] at hc; cases hc
    rw [hst] at hc
    simp only [cond_true] at hc ⊢
    split at hc
    case h_2 => cases hc
    split at hc
    case h_2 => cases hc
    rename_i hp
    simp only [Option.some.injEq, Prod.mk.injEq] at hc
    obtain ⟨rfl, rfl, rfl⟩ := hc
    exact ⟨rfl, rfl, fun h' N' => by rfl⟩
  · subst hm
    simp only [callM] at hc ⊢
    split at hc
    case h_2 => cases hc
    rename_i l hl
    split at hc
    case h_2 => cases hc
    rename_i hcall
    split at hc
    case h_2 => cases hc
    rename_i y hp
    cases hsc : y.scal
    · rw [hsc] at hc; cases hc
    rw [hsc] at hc
    simp only [cond_true, Option.some.injEq, Prod.mk.injEq] at hc
    obtain ⟨rfl, rfl, rfl⟩ := hc
    exact ⟨rfl, rfl, fun h' N' hk => by simp only [purs_same hk, hl, hcall, hp, hsc, cond_true]⟩
  · subst hm
    simp only [callM] at hc ⊢
    cases hst : stills args
    · rw [hst] at hc; cases hc
    rw [hst] at hc
    simp only [cond_true] at hc ⊢
    split at hc
    · simp only [Option.some.injEq, Prod.mk.injEq] at hc
      obtain ⟨rfl, rfl, rfl⟩ := hc
      exact ⟨rfl, [], by simp, rfl, fun h' N' => rfl⟩
    · split at hc
      case h_2 => cases hc
      split at hc
      case h_2 => cases hc
      rename_i l hl
      simp only [Option.some.injEq, Prod.mk.injEq] at hc
      obtain ⟨rfl, rfl, rfl⟩ := hc
      exact ⟨rfl, [(nid, some (.cells l))], by simp, rfl, fun h' N' => rfl⟩
    · cases hc
  · subst hm
    simp only [callM] at hc ⊢
    split at hc
    case h_2 => cases hc
    rename_i la hla
    split at hc
    · rename_i hcall
      simp only [Option.some.injEq, Prod.mk.injEq] at hc
      obtain ⟨rfl, rfl, rfl⟩ := hc
      exact ⟨rfl, [], by simp, rfl, fun h' N' hk => by simp only [purs_same hk, hla, hcall]; rfl⟩
    · rename_i hcall
      split at hc
      case h_2 => cases hc
      rename_i ho
      split at hc
      case h_2 => cases hc
      rename_i l hl
      cases hsc : scals l
      · rw [hsc] at hc; cases hc
      rw [hsc] at hc
      simp only [cond_true, Option.some.injEq, Prod.mk.injEq] at hc
      obtain ⟨rfl, rfl, rfl⟩ := hc
      exact ⟨rfl, [(nid, some (.cells l))], by simp, rfl, fun h' N' hk => by simp only [purs_same hk, hla, hcall, ho, hl, hsc, cond_true]; rfl⟩
    · cases hc
end
end Go.AM
