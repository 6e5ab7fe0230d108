/- Parts of the proof: B.Args, B.Large, B.Decl, AM.Fast, AM.Mono, B.Awake, B.Little, B.LessP, B.PartsP, AM.App, AM.Deep. -/
import Derived.Test.YtebogdeaiecldaaAmDraw4
import Derived.Test.YtebogdeaiecldaaBxGraph
import Derived.KernelRfl
import Derived.Test.YtebogdeaiecldaaTxTabB
import Derived.Test.YtebogdeaiecldaaBxLeads
/- How the data that comes in reads. (Printed by argsgen.py.) -/
namespace Go.AM.B
open Go.Proofs
noncomputable section
set_option linter.unusedVariables false
def encU8 (n : Int) : List AV := [.int .u8 n]
theorem rd_int : Rd Try.prog 3 (fun n : Int => [.int .i64 n]) (litOk .i64) := Rd.int Try.underlying3
theorem rd_uint32 : Rd Try.prog 115 (fun n : Int => [.int .u32 n]) (litOk .u32) := Rd.int Try.underlying115
def Arm.ok (a : Arm) : Prop := litOk .u32 a.value ∧ litOk .i64 a.next
theorem rd_Arm : Rd Try.prog 117 Arm.enc Arm.ok := by
  have h := Rd.struct (P := Try.prog) Try.underlying117 (by kernel_rfl) (RdF.cons (k := 1) rfl rd_uint32 (fun _ => rfl) (by kernel_rfl) (RdF.cons (k := 1) rfl rd_int (fun _ => rfl) (by kernel_rfl) .nil))
  exact h.map (fun p => (match p with | ⟨value, next, _⟩ => ⟨value, next⟩ : Arm)) (fun _ => rfl) (fun _ h => ⟨h.1, h.2.1⟩)
theorem rd_s_Arm : Rd Try.prog 40 (fun s : Sl Arm => [s.av 2 Arm.enc]) (fun s => (∀ a ∈ s.l, Arm.ok a) ∧ s.l.length ≤ reachBytes) :=
  (Rd.slice Try.underlying40 (k := 2) (by kernel_rfl) (by decide) (by kernel_rfl) rd_Arm (fun _ => rfl)).map (fun s => ⟨s.1, s.2.1, s.2.2⟩) (fun _ => rfl) (fun _ h => h)
def Node.ok (x : Node) : Prop := (∀ a ∈ x.arms.l, Arm.ok a) ∧ x.arms.l.length ≤ reachBytes
theorem rd_Node : Rd Try.prog 42 Node.enc Node.ok := by
  have h := Rd.struct (P := Try.prog) Try.underlying42 (by kernel_rfl) (RdF.cons (k := 1) rfl rd_int (fun _ => rfl) (by kernel_rfl) (RdF.cons (k := 1) rfl rd_int (fun _ => rfl) (by kernel_rfl) (RdF.cons (k := 1) rfl rd_int (fun _ => rfl) (by kernel_rfl) (RdF.cons (k := 1) rfl rd_int (fun _ => rfl) (by kernel_rfl) (RdF.cons (k := 1) rfl rd_int (fun _ => rfl) (by kernel_rfl) (RdF.cons (k := 1) rfl rd_int (fun _ => rfl) (by kernel_rfl) (RdF.cons (k := 1) rfl rd_int (fun _ => rfl) (by kernel_rfl) (RdF.cons (k := 1) rfl rd_s_Arm (fun _ => rfl) (by kernel_rfl) (RdF.cons (k := 1) rfl rd_int (fun _ => rfl) (by kernel_rfl) .nil)))))))))
  exact h.map (fun p => (match p with | ⟨id, size, lenOff, lenWidth, lenUnit, selOff, selWidth, arms, other, _⟩ => ⟨id, size, lenOff, lenWidth, lenUnit, selOff, selWidth, arms, other⟩ : Node)) (fun _ => rfl) (fun _ h => h.2.2.2.2.2.2.2.1)
theorem rd_s_Node : Rd Try.prog 22 (fun s : Sl Node => [s.av 9 Node.enc]) (fun s => (∀ a ∈ s.l, Node.ok a) ∧ s.l.length ≤ reachBytes) :=
  (Rd.slice Try.underlying22 (k := 9) (by kernel_rfl) (by decide) (by kernel_rfl) rd_Node (fun _ => rfl)).map (fun s => ⟨s.1, s.2.1, s.2.2⟩) (fun _ => rfl) (fun _ h => h)
theorem rd_uint8 : Rd Try.prog 5 (fun n : Int => [.int .u8 n]) (litOk .u8) := Rd.int Try.underlying5
def Field.ok (_ : Field) : Prop := True
theorem rd_Field : Rd Try.prog 137 Field.enc Field.ok := by
  have h := Rd.struct (P := Try.prog) Try.underlying137 (by kernel_rfl) (RdF.cons (k := 1) rfl rd_int (fun _ => rfl) (by kernel_rfl) (RdF.cons (k := 1) rfl rd_uint8 (fun _ => rfl) (by kernel_rfl) (RdF.cons (k := 1) rfl rd_int (fun _ => rfl) (by kernel_rfl) (RdF.cons (k := 1) rfl rd_int (fun _ => rfl) (by kernel_rfl) (RdF.cons (k := 1) rfl rd_int (fun _ => rfl) (by kernel_rfl) .nil)))))
  exact h.map (fun p => (match p with | ⟨id, base, node, off, width, _⟩ => ⟨id, base, node, off, width⟩ : Field)) (fun _ => rfl) (fun _ _ => trivial)
theorem rd_s_Field : Rd Try.prog 23 (fun s : Sl Field => [s.av 5 Field.enc]) (fun s => (∀ a ∈ s.l, Field.ok a) ∧ s.l.length ≤ reachBytes) :=
  (Rd.slice Try.underlying23 (k := 5) (by kernel_rfl) (by decide) (by kernel_rfl) rd_Field (fun _ => rfl)).map (fun s => ⟨s.1, s.2.1, s.2.2⟩) (fun _ => rfl) (fun _ h => h)
theorem rd_s_int : Rd Try.prog 30 (fun s : Sl Int => [s.av 1 encI]) (fun s => (∀ a ∈ s.l, (litOk .i64) a) ∧ s.l.length ≤ reachBytes) :=
  (Rd.slice Try.underlying30 (k := 1) (by kernel_rfl) (by decide) (by kernel_rfl) rd_int (fun _ => rfl)).map (fun s => ⟨s.1, s.2.1, s.2.2⟩) (fun _ => rfl) (fun _ h => h)
def Table.ok (_ : Table) : Prop := True
theorem rd_Table : Rd Try.prog 44 Table.enc Table.ok := by
  have h := Rd.struct (P := Try.prog) Try.underlying44 (by kernel_rfl) (RdF.cons (k := 1) rfl rd_int (fun _ => rfl) (by kernel_rfl) (RdF.cons (k := 1) rfl rd_uint8 (fun _ => rfl) (by kernel_rfl) (RdF.cons (k := 1) rfl rd_s_int (fun _ => rfl) (by kernel_rfl) (RdF.cons (k := 1) rfl rd_int (fun _ => rfl) (by kernel_rfl) (RdF.cons (k := 1) rfl rd_int (fun _ => rfl) (by kernel_rfl) .nil)))))
  exact h.map (fun p => (match p with | ⟨id, kind, keys, cap, miss, _⟩ => ⟨id, kind, keys, cap, miss⟩ : Table)) (fun _ => rfl) (fun _ _ => trivial)
theorem rd_s_Table : Rd Try.prog 24 (fun s : Sl Table => [s.av 5 Table.enc]) (fun s => (∀ a ∈ s.l, Table.ok a) ∧ s.l.length ≤ reachBytes) :=
  (Rd.slice Try.underlying24 (k := 5) (by kernel_rfl) (by decide) (by kernel_rfl) rd_Table (fun _ => rfl)).map (fun s => ⟨s.1, s.2.1, s.2.2⟩) (fun _ => rfl) (fun _ h => h)
theorem rd_string : Rd Try.prog 9 (fun b : ByteArray => [.str b]) (fun b => b.size ≤ maxLen) := Rd.str Try.underlying9
theorem rd_uint64 : Rd Try.prog 46 (fun n : Int => [.int .u64 n]) (litOk .u64) := Rd.int Try.underlying46
theorem rd_s_uint64 : Rd Try.prog 45 (fun s : Sl Int => [s.av 1 encU64]) (fun s => (∀ a ∈ s.l, (litOk .u64) a) ∧ s.l.length ≤ reachBytes) :=
  (Rd.slice Try.underlying45 (k := 1) (by kernel_rfl) (by decide) (by kernel_rfl) rd_uint64 (fun _ => rfl)).map (fun s => ⟨s.1, s.2.1, s.2.2⟩) (fun _ => rfl) (fun _ h => h)
theorem rd_int64 : Rd Try.prog 2 (fun n : Int => [.int .i64 n]) (litOk .i64) := Rd.int Try.underlying2
theorem rd_bool : Rd Try.prog 4 (fun b : Bool => [.bool b]) (fun _ => True) := Rd.bool Try.underlying4
def Entry.ok (_ : Entry) : Prop := True
theorem rd_Entry : Rd Try.prog 48 Entry.enc Entry.ok := by
  have h := Rd.struct (P := Try.prog) Try.underlying48 (by kernel_rfl) (RdF.cons (k := 1) rfl rd_int (fun _ => rfl) (by kernel_rfl) (RdF.cons (k := 1) rfl rd_string (fun _ => rfl) (by kernel_rfl) (RdF.cons (k := 1) rfl rd_string (fun _ => rfl) (by kernel_rfl) (RdF.cons (k := 1) rfl rd_int (fun _ => rfl) (by kernel_rfl) (RdF.cons (k := 1) rfl rd_int (fun _ => rfl) (by kernel_rfl) (RdF.cons (k := 1) rfl rd_int (fun _ => rfl) (by kernel_rfl) (RdF.cons (k := 1) rfl rd_s_uint64 (fun _ => rfl) (by kernel_rfl) (RdF.cons (k := 1) rfl rd_int64 (fun _ => rfl) (by kernel_rfl) (RdF.cons (k := 1) rfl rd_int64 (fun _ => rfl) (by kernel_rfl) (RdF.cons (k := 1) rfl rd_uint64 (fun _ => rfl) (by kernel_rfl) (RdF.cons (k := 1) rfl rd_bool (fun _ => rfl) (by kernel_rfl) .nil)))))))))))
  exact h.map (fun p => (match p with | ⟨table, key, other, len, prio, block, args, idle, hard, cookie, tell, _⟩ => ⟨table, key, other, len, prio, block, args, idle, hard, cookie, tell⟩ : Entry)) (fun _ => rfl) (fun _ _ => trivial)
theorem rd_s_Entry : Rd Try.prog 25 (fun s : Sl Entry => [s.av 11 Entry.enc]) (fun s => (∀ a ∈ s.l, Entry.ok a) ∧ s.l.length ≤ reachBytes) :=
  (Rd.slice Try.underlying25 (k := 11) (by kernel_rfl) (by decide) (by kernel_rfl) rd_Entry (fun _ => rfl)).map (fun s => ⟨s.1, s.2.1, s.2.2⟩) (fun _ => rfl) (fun _ h => h)
def Arg.enc (a : Int × Int) : List AV := [.int .u8 a.1, .int .u64 a.2]
def Arg.ok (a : Int × Int) : Prop := litOk .u8 a.1 ∧ litOk .u64 a.2
theorem rd_Arg : Rd Try.prog 62 Arg.enc Arg.ok := by
  have h := Rd.struct (P := Try.prog) Try.underlying62 (by kernel_rfl) (RdF.cons (k := 1) rfl rd_uint8 (fun _ => rfl) (by kernel_rfl) (RdF.cons (k := 1) rfl rd_uint64 (fun _ => rfl) (by kernel_rfl) .nil))
  exact h.map (fun p => (match p with | ⟨k, n, _⟩ => (k, n) : Int × Int)) (fun _ => rfl) (fun _ h => ⟨h.1, h.2.1⟩)
def Instr.ok (x : Instr) : Prop := litOk .u8 x.op ∧ litOk .i64 x.to ∧ litOk .u8 x.ak ∧ litOk .u64 x.an ∧ litOk .u8 x.bk ∧ litOk .u64 x.bn ∧ litOk .i64 x.n
theorem rd_Instr : Rd Try.prog 64 Instr.enc Instr.ok := by
  have h := Rd.struct (P := Try.prog) Try.underlying64 (by kernel_rfl) (RdF.cons (k := 1) rfl rd_uint8 (fun _ => rfl) (by kernel_rfl) (RdF.cons (k := 1) rfl rd_int (fun _ => rfl) (by kernel_rfl) (RdF.cons (k := 2) rfl rd_Arg (fun _ => rfl) (by kernel_rfl) (RdF.cons (k := 2) rfl rd_Arg (fun _ => rfl) (by kernel_rfl) (RdF.cons (k := 1) rfl rd_int (fun _ => rfl) (by kernel_rfl) .nil)))))
  exact h.map (fun p => (match p with | ⟨op, to, A, B, n, _⟩ => ⟨op, to, A.1, A.2, B.1, B.2, n⟩ : Instr)) (fun _ => rfl) (fun _ h => ⟨h.1, h.2.1, h.2.2.1.1, h.2.2.1.2, h.2.2.2.1.1, h.2.2.2.1.2, h.2.2.2.2.1⟩)
theorem rd_s_Instr : Rd Try.prog 49 (fun s : Sl Instr => [s.av 7 Instr.enc]) (fun s => (∀ a ∈ s.l, Instr.ok a) ∧ s.l.length ≤ reachBytes) :=
  (Rd.slice Try.underlying49 (k := 7) (by kernel_rfl) (by decide) (by kernel_rfl) rd_Instr (fun _ => rfl)).map (fun s => ⟨s.1, s.2.1, s.2.2⟩) (fun _ => rfl) (fun _ h => h)
def Block.ok (x : Block) : Prop := (∀ a ∈ x.code.l, Instr.ok a) ∧ x.code.l.length ≤ reachBytes
theorem rd_Block : Rd Try.prog 52 Block.enc Block.ok := by
  have h := Rd.struct (P := Try.prog) Try.underlying52 (by kernel_rfl) (RdF.cons (k := 1) rfl rd_int (fun _ => rfl) (by kernel_rfl) (RdF.cons (k := 1) rfl rd_s_Instr (fun _ => rfl) (by kernel_rfl) .nil))
  exact h.map (fun p => (match p with | ⟨id, code, _⟩ => ⟨id, code⟩ : Block)) (fun _ => rfl) (fun _ h => h.2.1)
theorem rd_s_Block : Rd Try.prog 26 (fun s : Sl Block => [s.av 2 Block.enc]) (fun s => (∀ a ∈ s.l, Block.ok a) ∧ s.l.length ≤ reachBytes) :=
  (Rd.slice Try.underlying26 (k := 2) (by kernel_rfl) (by decide) (by kernel_rfl) rd_Block (fun _ => rfl)).map (fun s => ⟨s.1, s.2.1, s.2.2⟩) (fun _ => rfl) (fun _ h => h)
def Bucket.ok (_ : Bucket) : Prop := True
theorem rd_Bucket : Rd Try.prog 71 Bucket.enc Bucket.ok := by
  have h := Rd.struct (P := Try.prog) Try.underlying71 (by kernel_rfl) (RdF.cons (k := 1) rfl rd_uint64 (fun _ => rfl) (by kernel_rfl) (RdF.cons (k := 1) rfl rd_int (fun _ => rfl) (by kernel_rfl) .nil))
  exact h.map (fun p => (match p with | ⟨weight, block, _⟩ => ⟨weight, block⟩ : Bucket)) (fun _ => rfl) (fun _ _ => trivial)
theorem rd_s_Bucket : Rd Try.prog 67 (fun s : Sl Bucket => [s.av 2 Bucket.enc]) (fun s => (∀ a ∈ s.l, Bucket.ok a) ∧ s.l.length ≤ reachBytes) :=
  (Rd.slice Try.underlying67 (k := 2) (by kernel_rfl) (by decide) (by kernel_rfl) rd_Bucket (fun _ => rfl)).map (fun s => ⟨s.1, s.2.1, s.2.2⟩) (fun _ => rfl) (fun _ h => h)
def Group.ok (x : Group) : Prop := x.buckets.l.length ≤ reachBytes
theorem rd_Group : Rd Try.prog 69 Group.enc Group.ok := by
  have h := Rd.struct (P := Try.prog) Try.underlying69 (by kernel_rfl) (RdF.cons (k := 1) rfl rd_int (fun _ => rfl) (by kernel_rfl) (RdF.cons (k := 1) rfl rd_uint8 (fun _ => rfl) (by kernel_rfl) (RdF.cons (k := 1) rfl rd_int (fun _ => rfl) (by kernel_rfl) (RdF.cons (k := 1) rfl rd_s_Bucket (fun _ => rfl) (by kernel_rfl) .nil))))
  exact h.map (fun p => (match p with | ⟨id, kind, field, buckets, _⟩ => ⟨id, kind, field, buckets⟩ : Group)) (fun _ => rfl) (fun _ h => h.2.2.2.1.2)
theorem rd_s_Group : Rd Try.prog 27 (fun s : Sl Group => [s.av 4 Group.enc]) (fun s => (∀ a ∈ s.l, Group.ok a) ∧ s.l.length ≤ reachBytes) :=
  (Rd.slice Try.underlying27 (k := 4) (by kernel_rfl) (by decide) (by kernel_rfl) rd_Group (fun _ => rfl)).map (fun s => ⟨s.1, s.2.1, s.2.2⟩) (fun _ => rfl) (fun _ h => h)
def Meter.ok (_ : Meter) : Prop := True
theorem rd_Meter : Rd Try.prog 139 Meter.enc Meter.ok := by
  have h := Rd.struct (P := Try.prog) Try.underlying139 (by kernel_rfl) (RdF.cons (k := 1) rfl rd_int (fun _ => rfl) (by kernel_rfl) (RdF.cons (k := 1) rfl rd_int64 (fun _ => rfl) (by kernel_rfl) (RdF.cons (k := 1) rfl rd_int64 (fun _ => rfl) (by kernel_rfl) .nil)))
  exact h.map (fun p => (match p with | ⟨id, rate, burst, _⟩ => ⟨id, rate, burst⟩ : Meter)) (fun _ => rfl) (fun _ _ => trivial)
theorem rd_s_Meter : Rd Try.prog 28 (fun s : Sl Meter => [s.av 3 Meter.enc]) (fun s => (∀ a ∈ s.l, Meter.ok a) ∧ s.l.length ≤ reachBytes) :=
  (Rd.slice Try.underlying28 (k := 3) (by kernel_rfl) (by decide) (by kernel_rfl) rd_Meter (fun _ => rfl)).map (fun s => ⟨s.1, s.2.1, s.2.2⟩) (fun _ => rfl) (fun _ h => h)
def Regs.ok (_ : Regs) : Prop := True
theorem rd_Regs : Rd Try.prog 141 Regs.enc Regs.ok := by
  have h := Rd.struct (P := Try.prog) Try.underlying141 (by kernel_rfl) (RdF.cons (k := 1) rfl rd_int (fun _ => rfl) (by kernel_rfl) (RdF.cons (k := 1) rfl rd_int (fun _ => rfl) (by kernel_rfl) .nil))
  exact h.map (fun p => (match p with | ⟨id, size, _⟩ => ⟨id, size⟩ : Regs)) (fun _ => rfl) (fun _ _ => trivial)
theorem rd_s_Regs : Rd Try.prog 29 (fun s : Sl Regs => [s.av 2 Regs.enc]) (fun s => (∀ a ∈ s.l, Regs.ok a) ∧ s.l.length ≤ reachBytes) :=
  (Rd.slice Try.underlying29 (k := 2) (by kernel_rfl) (by decide) (by kernel_rfl) rd_Regs (fun _ => rfl)).map (fun s => ⟨s.1, s.2.1, s.2.2⟩) (fun _ => rfl) (fun _ h => h)
def Config.ok (x : Config) : Prop := (∀ a ∈ x.nodes.l, Node.ok a) ∧ (∀ a ∈ x.blocks.l, Block.ok a) ∧ (∀ a ∈ x.groups.l, Group.ok a) ∧ x.nodes.l.length ≤ reachBytes ∧ x.tables.l.length ≤ reachBytes ∧ x.entries.l.length ≤ reachBytes ∧ x.blocks.l.length ≤ reachBytes ∧ x.groups.l.length ≤ reachBytes
theorem rd_Config : Rd Try.prog 32 Config.enc Config.ok := by
  have h := Rd.struct (P := Try.prog) Try.underlying32 (by kernel_rfl) (RdF.cons (k := 1) rfl rd_s_Node (fun _ => rfl) (by kernel_rfl) (RdF.cons (k := 1) rfl rd_s_Field (fun _ => rfl) (by kernel_rfl) (RdF.cons (k := 1) rfl rd_s_Table (fun _ => rfl) (by kernel_rfl) (RdF.cons (k := 1) rfl rd_s_Entry (fun _ => rfl) (by kernel_rfl) (RdF.cons (k := 1) rfl rd_s_Block (fun _ => rfl) (by kernel_rfl) (RdF.cons (k := 1) rfl rd_s_Group (fun _ => rfl) (by kernel_rfl) (RdF.cons (k := 1) rfl rd_s_Meter (fun _ => rfl) (by kernel_rfl) (RdF.cons (k := 1) rfl rd_s_Regs (fun _ => rfl) (by kernel_rfl) (RdF.cons (k := 1) rfl rd_s_int (fun _ => rfl) (by kernel_rfl) .nil)))))))))
  exact h.map (fun p => (match p with | ⟨nodes, fields, tables, entries, blocks, groups, meters, regs, counters, _⟩ => ⟨nodes, fields, tables, entries, blocks, groups, meters, regs, counters⟩ : Config)) (fun _ => rfl) (fun _ h => ⟨h.1.1, h.2.2.2.2.1.1, h.2.2.2.2.2.1.1, h.1.2, h.2.2.1.2, h.2.2.2.1.2, h.2.2.2.2.1.2, h.2.2.2.2.2.1.2⟩)
theorem rd_s_uint8 : Rd Try.prog 55 (fun s : Sl Int => [s.av 1 encU8]) (fun s => (∀ a ∈ s.l, (litOk .u8) a) ∧ s.l.length ≤ reachBytes) :=
  (Rd.slice Try.underlying55 (k := 1) (by kernel_rfl) (by decide) (by kernel_rfl) rd_uint8 (fun _ => rfl)).map (fun s => ⟨s.1, s.2.1, s.2.2⟩) (fun _ => rfl) (fun _ h => h)
end
end Go.AM.B

/- The guard 'large'. -/
namespace Go.AM.B
open Go.Proofs.Ytebogdeaiecldaa.Tab
noncomputable section
set_option linter.unusedVariables false
set_option linter.unusedSimpArgs false
set_option maxHeartbeats 4000000

def stepL (n : Int) (k : Nat) : Int := if n < 600 then n + min 600 (k : Int) else n
def sumL (l : List Nat) (n : Int) : Int := l.foldl stepL n
theorem sumL_big : ∀ (l : List Nat) (n : Int), 600 ≤ n → sumL l n = n := by
  intro l
  induction l with
  | nil => intro n _; rfl
  | cons a l ih =>
    intro n h
    have : stepL n a = n := by unfold stepL; rw [if_neg (by omega)]
    simp only [sumL, List.foldl_cons, this]
    exact ih n h
theorem sumL_ge : ∀ (l : List Nat) (n : Int), n ≤ sumL l n := by
  intro l
  induction l with
  | nil => intro n; exact Int.le_refl n
  | cons a l ih =>
    intro n
    have h := ih (stepL n a)
    have : n ≤ stepL n a := by unfold stepL; split <;> omega
    exact Int.le_trans this h
theorem sumL_mem : ∀ (l : List Nat) (n : Int), sumL l n < 600 → 0 ≤ n → ∀ a ∈ l, a < 600 := by
  intro l
  induction l with
  | nil => intro n _ _ a h; cases h
  | cons b l ih =>
    intro n h hn a ha
    have h1 : sumL l (stepL n b) < 600 := h
    have h2 := sumL_ge l (stepL n b)
    have h3 : stepL n b = n + min 600 (b : Int) := by
      unfold stepL
      split
      · rfl
      · rename_i hc
        have e : stepL n b = n := by unfold stepL; rw [if_neg hc]
        omega
    rcases List.mem_cons.1 ha with rfl | ha
    · omega
    · exact ih _ h1 (by omega) a ha
def n0 (c : Config) : Int := c.nodes.l.length + c.tables.l.length + c.entries.l.length + c.blocks.l.length + c.groups.l.length
def lrg (c : Config) : Int := sumL (c.groups.l.map fun g => g.buckets.l.length) (sumL (c.blocks.l.map fun b => b.code.l.length) (sumL (c.nodes.l.map fun x => x.arms.l.length) (n0 c)))
def largeB (c : Config) : Bool := if 60 < n0 c then true else decide (600 ≤ lrg c)
theorem large_small {c : Config} (h : largeB c = false) : Small c ∧ n0 c ≤ 60 := by
  unfold largeB at h
  split at h
  · cases h
  rename_i h0
  have h1 := of_decide_eq_false h
  unfold lrg at h1
  have hn : 0 ≤ n0 c := by unfold n0; omega
  have a1 := sumL_ge (c.nodes.l.map fun x => x.arms.l.length) (n0 c)
  have a2 := sumL_ge (c.blocks.l.map fun b => b.code.l.length) (sumL (c.nodes.l.map fun x => x.arms.l.length) (n0 c))
  have a3 := sumL_ge (c.groups.l.map fun g => g.buckets.l.length) (sumL (c.blocks.l.map fun b => b.code.l.length) (sumL (c.nodes.l.map fun x => x.arms.l.length) (n0 c)))
  have b1 := sumL_mem _ _ (by omega : sumL (c.nodes.l.map fun x => x.arms.l.length) (n0 c) < 600) hn
  have b2 := sumL_mem _ _ (by omega : sumL (c.blocks.l.map fun b => b.code.l.length) (sumL (c.nodes.l.map fun x => x.arms.l.length) (n0 c)) < 600) (by omega)
  have b3 := sumL_mem _ _ (by omega : sumL (c.groups.l.map fun g => g.buckets.l.length) (sumL (c.blocks.l.map fun b => b.code.l.length) (sumL (c.nodes.l.map fun x => x.arms.l.length) (n0 c))) < 600) (by omega)
  unfold n0 at h0
  refine ⟨⟨by omega, fun x hx => ?_, by omega, by omega, by omega, by omega, fun x hx => ?_, fun x hx => ?_⟩, by unfold n0; omega⟩
  · have := b1 _ (List.mem_map.2 ⟨x, hx, rfl⟩); omega
  · have := b2 _ (List.mem_map.2 ⟨x, hx, rfl⟩); omega
  · have := b3 _ (List.mem_map.2 ⟨x, hx, rfl⟩); omega
theorem sumL_snoc {α : Type} (f : α → Nat) (l : List α) (n : Int) {i : Nat} (hi : i < l.length) : sumL ((l.take (i + 1)).map f) n = stepL (sumL ((l.take i).map f) n) (f l[i]) := by
  rw [map_snoc hi]; unfold sumL; rw [List.foldl_append]; rfl
theorem sumL_stop {α : Type} (f : α → Nat) (l : List α) (n : Int) {i : Nat} (h : 600 ≤ sumL ((l.take i).map f) n) : sumL (l.map f) n = sumL ((l.take i).map f) n := by
  have e : l.map f = (l.take i).map f ++ (l.drop i).map f := by rw [← List.map_append, List.take_append_drop]
  rw [e]
  have : sumL ((l.take i).map f ++ (l.drop i).map f) n = sumL ((l.drop i).map f) (sumL ((l.take i).map f) n) := by unfold sumL; rw [List.foldl_append]
  rw [this, sumL_big _ _ h]

theorem large_c (c : Config) (hok : c.nodes.l.length ≤ reachBytes ∧ c.tables.l.length ≤ reachBytes ∧ c.entries.l.length ≤ reachBytes ∧ c.blocks.l.length ≤ reachBytes ∧ c.groups.l.length ≤ reachBytes) : VC1 T 10 [.agg c.enc] (.bool (largeB c)) := by
  obtain ⟨k1, k2, k3, k4, k5⟩ := hok
  have hr : reachBytes = 140737488351232 := rfl
  rw [hr] at k1 k2 k3 k4 k5
  refine VC1.of (vf := v10) rfl rfl ?_
  unfold v10
  repeat (first | refine W.seq ?_ | refine W.ops ?_ | refine WL.off rfl rfl ?_ | refine WL.val rfl rfl rfl ?_ | refine WL.nil ?_ | refine W.block ?_ | refine W.outBlock ?_ | refine W.skip ?_ | refine W.exit rfl ?_ | refine WL.box rfl rfl rfl ?_ | refine W.opsD ?_ | refine W.condT rfl ?_ | refine W.condF rfl ?_)
  have ew : IntKind.wrap .i64 (IntKind.wrap .i64 (IntKind.wrap .i64 (IntKind.wrap .i64 ((c.nodes.l.length : Int) + c.tables.l.length) + c.entries.l.length) + c.blocks.l.length) + c.groups.l.length) = n0 c := by
    rw [wrap64 (n := (c.nodes.l.length : Int) + c.tables.l.length) (by omega) (by omega), wrap64 (n := (c.nodes.l.length : Int) + c.tables.l.length + c.entries.l.length) (by omega) (by omega), wrap64 (n := (c.nodes.l.length : Int) + c.tables.l.length + c.entries.l.length + c.blocks.l.length) (by omega) (by omega), wrap64 (by omega) (by omega)]
    rfl
  have hn0 : 0 ≤ n0 c := by unfold n0; omega
  rw [ew]
  refine W.condS rfl (fun h0 => ?_) (fun h0 => ?_)
  · have h0' := of_decide_eq_true h0
    repeat (first | refine W.seq ?_ | refine W.ops ?_ | refine WL.off rfl rfl ?_ | refine WL.val rfl rfl rfl ?_ | refine WL.nil ?_ | refine W.block ?_ | refine W.outBlock ?_ | refine W.skip ?_ | refine W.exit rfl ?_ | refine WL.box rfl rfl rfl ?_ | refine W.opsD ?_ | refine W.condT rfl ?_ | refine W.condF rfl ?_)
    exact W.ret ⟨_, rfl, retB (by unfold largeB; rw [if_pos h0'])⟩
  replace h0 : ¬ 60 < n0 c := of_decide_eq_false h0
  have hlens : c.nodes.l.length ≤ 60 ∧ c.blocks.l.length ≤ 60 ∧ c.groups.l.length ≤ 60 := by unfold n0 at h0; omega
  have h1 : 0 ≤ n0 c ∧ n0 c < 1300 := by omega
  repeat (first | refine W.seq ?_ | refine W.ops ?_ | refine WL.off rfl rfl ?_ | refine WL.val rfl rfl rfl ?_ | refine WL.nil ?_ | refine W.block ?_ | refine W.outBlock ?_ | refine W.skip ?_ | refine W.exit rfl ?_ | refine WL.box rfl rfl rfl ?_ | refine W.opsD ?_ | refine W.condT rfl ?_ | refine W.condF rfl ?_)
  refine W.loopE (E0 := envOf [(1, _), (3, _), (4, _)]) rfl (β := Nat) (fun b => [(3, .v (.int .i64 (sumL ((c.nodes.l.take b).map (fun x : Node => x.arms.l.length)) (n0 c)))), (4, .v (.int .i64 b))])
    (fun b h n => b ≤ c.nodes.l.length ∧ h = Heap.empty ∧ (0 ≤ sumL ((c.nodes.l.take b).map (fun x : Node => x.arms.l.length)) (n0 c) ∧ sumL ((c.nodes.l.take b).map (fun x : Node => x.arms.l.length)) (n0 c) < 1300)) (fun b => c.nodes.l.length - b) 0 rfl ⟨by simp, rfl, h1⟩ ?_
  rintro i h n ⟨hi, rfl, hs⟩ ih
  repeat (first | refine W.seq ?_ | refine W.ops ?_ | refine WL.off rfl rfl ?_ | refine WL.val rfl rfl rfl ?_ | refine WL.nil ?_ | refine W.block ?_ | refine W.outBlock ?_ | refine W.skip ?_ | refine W.exit rfl ?_ | refine WL.box rfl rfl rfl ?_ | refine W.opsD ?_ | refine W.condT rfl ?_ | refine W.condF rfl ?_)
  refine WL.splitG rfl (fun hb2 => ?_) (fun hb2 => ?_)
  · have hlt : i < c.nodes.l.length := by simpa using hb2
    repeat (first | refine W.seq ?_ | refine W.ops ?_ | refine WL.off rfl rfl ?_ | refine WL.val rfl rfl rfl ?_ | refine WL.nil ?_ | refine W.block ?_ | refine W.outBlock ?_ | refine W.skip ?_ | refine W.exit rfl ?_ | refine WL.box rfl rfl rfl ?_ | refine W.opsD ?_ | refine W.condT rfl ?_ | refine W.condF rfl ?_)
    refine W.condS rfl (fun hb3 => ?_) (fun hb3 => ?_)
    · have hb3' : sumL ((c.nodes.l.take i).map (fun x : Node => x.arms.l.length)) (n0 c) < 600 := of_decide_eq_true hb3
      repeat (first | refine W.seq ?_ | refine W.ops ?_ | refine WL.off rfl rfl ?_ | refine WL.val rfl rfl rfl ?_ | refine WL.nil ?_ | refine W.block ?_ | refine W.outBlock ?_ | refine W.skip ?_ | refine W.exit rfl ?_ | refine WL.box rfl rfl rfl ?_ | refine W.opsD ?_ | refine W.condT rfl ?_ | refine W.condF rfl ?_)
      refine WL.val rfl (aop_iaddr_p rfl rfl hlt) rfl ?_
      repeat (first | refine W.seq ?_ | refine W.ops ?_ | refine WL.off rfl rfl ?_ | refine WL.val rfl rfl rfl ?_ | refine WL.nil ?_ | refine W.block ?_ | refine W.outBlock ?_ | refine W.skip ?_ | refine W.exit rfl ?_ | refine WL.box rfl rfl rfl ?_ | refine W.opsD ?_ | refine W.condT rfl ?_ | refine W.condF rfl ?_)
      refine WL.val rfl (aop_load_el (enc := Node.enc) (o := 7) rfl (fun _ => rfl) hlt (by decide) rfl) rfl ?_
      repeat (first | refine W.seq ?_ | refine W.ops ?_ | refine WL.off rfl rfl ?_ | refine WL.val rfl rfl rfl ?_ | refine WL.nil ?_ | refine W.block ?_ | refine W.outBlock ?_ | refine W.skip ?_ | refine W.exit rfl ?_ | refine WL.box rfl rfl rfl ?_ | refine W.opsD ?_ | refine W.condT rfl ?_ | refine W.condF rfl ?_)
      have es : IntKind.wrap .i64 (sumL ((c.nodes.l.take i).map (fun x : Node => x.arms.l.length)) (n0 c) + min 600 (((fun x : Node => x.arms.l.length) c.nodes.l[i] : Nat) : Int)) = sumL ((c.nodes.l.take (i + 1)).map (fun x : Node => x.arms.l.length)) (n0 c) := by
        rw [sumL_snoc (fun x : Node => x.arms.l.length) c.nodes.l (n0 c) hlt, wrap64 (by omega) (by omega)]; unfold stepL; rw [if_pos hb3']
      refine ih (i + 1) _ _ _ ⟨hlt, rfl, ?_⟩ (by omega) (by rw [← wrap64_nat (k := i) (by omega), ← es]; rfl)
      rw [← es, wrap64 (by omega) (by omega)]; omega
    · have hb3' := of_decide_eq_false hb3
      have es : sumL ((c.nodes.l.take i).map (fun x : Node => x.arms.l.length)) (n0 c) = sumL (c.nodes.l.map (fun x : Node => x.arms.l.length)) (n0 c) := (sumL_stop (fun x : Node => x.arms.l.length) c.nodes.l (n0 c) (by omega)).symm
      clear ih
      rw [es] at hs ⊢
      repeat (first | refine W.seq ?_ | refine W.ops ?_ | refine WL.off rfl rfl ?_ | refine WL.val rfl rfl rfl ?_ | refine WL.nil ?_ | refine W.block ?_ | refine W.outBlock ?_ | refine W.skip ?_ | refine W.exit rfl ?_ | refine WL.box rfl rfl rfl ?_ | refine W.opsD ?_ | refine W.condT rfl ?_ | refine W.condF rfl ?_)
      have h2 := hs
      refine W.loopE (E0 := envOf [(1, _), (3, _), (5, _)]) rfl (β := Nat) (fun b => [(3, .v (.int .i64 (sumL ((c.blocks.l.take b).map (fun b : Block => b.code.l.length)) (sumL (c.nodes.l.map fun x => x.arms.l.length) (n0 c))))), (5, .v (.int .i64 b))])
        (fun b h n => b ≤ c.blocks.l.length ∧ h = Heap.empty ∧ (0 ≤ sumL ((c.blocks.l.take b).map (fun b : Block => b.code.l.length)) (sumL (c.nodes.l.map fun x => x.arms.l.length) (n0 c)) ∧ sumL ((c.blocks.l.take b).map (fun b : Block => b.code.l.length)) (sumL (c.nodes.l.map fun x => x.arms.l.length) (n0 c)) < 1300)) (fun b => c.blocks.l.length - b) 0 rfl ⟨by simp, rfl, h2⟩ ?_
      rintro i h n ⟨hi, rfl, hs⟩ ih
      repeat (first | refine W.seq ?_ | refine W.ops ?_ | refine WL.off rfl rfl ?_ | refine WL.val rfl rfl rfl ?_ | refine WL.nil ?_ | refine W.block ?_ | refine W.outBlock ?_ | refine W.skip ?_ | refine W.exit rfl ?_ | refine WL.box rfl rfl rfl ?_ | refine W.opsD ?_ | refine W.condT rfl ?_ | refine W.condF rfl ?_)
      refine WL.splitG rfl (fun hb2 => ?_) (fun hb2 => ?_)
      · have hlt : i < c.blocks.l.length := by simpa using hb2
        repeat (first | refine W.seq ?_ | refine W.ops ?_ | refine WL.off rfl rfl ?_ | refine WL.val rfl rfl rfl ?_ | refine WL.nil ?_ | refine W.block ?_ | refine W.outBlock ?_ | refine W.skip ?_ | refine W.exit rfl ?_ | refine WL.box rfl rfl rfl ?_ | refine W.opsD ?_ | refine W.condT rfl ?_ | refine W.condF rfl ?_)
        refine W.condS rfl (fun hb3 => ?_) (fun hb3 => ?_)
        · have hb3' : sumL ((c.blocks.l.take i).map (fun b : Block => b.code.l.length)) (sumL (c.nodes.l.map fun x => x.arms.l.length) (n0 c)) < 600 := of_decide_eq_true hb3
          repeat (first | refine W.seq ?_ | refine W.ops ?_ | refine WL.off rfl rfl ?_ | refine WL.val rfl rfl rfl ?_ | refine WL.nil ?_ | refine W.block ?_ | refine W.outBlock ?_ | refine W.skip ?_ | refine W.exit rfl ?_ | refine WL.box rfl rfl rfl ?_ | refine W.opsD ?_ | refine W.condT rfl ?_ | refine W.condF rfl ?_)
          refine WL.val rfl (aop_iaddr_p rfl rfl hlt) rfl ?_
          repeat (first | refine W.seq ?_ | refine W.ops ?_ | refine WL.off rfl rfl ?_ | refine WL.val rfl rfl rfl ?_ | refine WL.nil ?_ | refine W.block ?_ | refine W.outBlock ?_ | refine W.skip ?_ | refine W.exit rfl ?_ | refine WL.box rfl rfl rfl ?_ | refine W.opsD ?_ | refine W.condT rfl ?_ | refine W.condF rfl ?_)
          refine WL.val rfl (aop_load_el (enc := Block.enc) (o := 1) rfl (fun _ => rfl) hlt (by decide) rfl) rfl ?_
          repeat (first | refine W.seq ?_ | refine W.ops ?_ | refine WL.off rfl rfl ?_ | refine WL.val rfl rfl rfl ?_ | refine WL.nil ?_ | refine W.block ?_ | refine W.outBlock ?_ | refine W.skip ?_ | refine W.exit rfl ?_ | refine WL.box rfl rfl rfl ?_ | refine W.opsD ?_ | refine W.condT rfl ?_ | refine W.condF rfl ?_)
          have es : IntKind.wrap .i64 (sumL ((c.blocks.l.take i).map (fun b : Block => b.code.l.length)) (sumL (c.nodes.l.map fun x => x.arms.l.length) (n0 c)) + min 600 (((fun b : Block => b.code.l.length) c.blocks.l[i] : Nat) : Int)) = sumL ((c.blocks.l.take (i + 1)).map (fun b : Block => b.code.l.length)) (sumL (c.nodes.l.map fun x => x.arms.l.length) (n0 c)) := by
            rw [sumL_snoc (fun b : Block => b.code.l.length) c.blocks.l (sumL (c.nodes.l.map fun x => x.arms.l.length) (n0 c)) hlt, wrap64 (by omega) (by omega)]; unfold stepL; rw [if_pos hb3']
          refine ih (i + 1) _ _ _ ⟨hlt, rfl, ?_⟩ (by omega) (by rw [← wrap64_nat (k := i) (by omega), ← es]; rfl)
          rw [← es, wrap64 (by omega) (by omega)]; omega
        · have hb3' := of_decide_eq_false hb3
          have es : sumL ((c.blocks.l.take i).map (fun b : Block => b.code.l.length)) (sumL (c.nodes.l.map fun x => x.arms.l.length) (n0 c)) = sumL (c.blocks.l.map (fun b : Block => b.code.l.length)) (sumL (c.nodes.l.map fun x => x.arms.l.length) (n0 c)) := (sumL_stop (fun b : Block => b.code.l.length) c.blocks.l (sumL (c.nodes.l.map fun x => x.arms.l.length) (n0 c)) (by omega)).symm
          clear ih
          rw [es] at hs ⊢
          repeat (first | refine W.seq ?_ | refine W.ops ?_ | refine WL.off rfl rfl ?_ | refine WL.val rfl rfl rfl ?_ | refine WL.nil ?_ | refine W.block ?_ | refine W.outBlock ?_ | refine W.skip ?_ | refine W.exit rfl ?_ | refine WL.box rfl rfl rfl ?_ | refine W.opsD ?_ | refine W.condT rfl ?_ | refine W.condF rfl ?_)
          have h3 := hs
          refine W.loopE (E0 := envOf [(1, _), (3, _), (6, _)]) rfl (β := Nat) (fun b => [(3, .v (.int .i64 (sumL ((c.groups.l.take b).map (fun g : Group => g.buckets.l.length)) (sumL (c.blocks.l.map fun b => b.code.l.length) (sumL (c.nodes.l.map fun x => x.arms.l.length) (n0 c)))))), (6, .v (.int .i64 b))])
            (fun b h n => b ≤ c.groups.l.length ∧ h = Heap.empty ∧ (0 ≤ sumL ((c.groups.l.take b).map (fun g : Group => g.buckets.l.length)) (sumL (c.blocks.l.map fun b => b.code.l.length) (sumL (c.nodes.l.map fun x => x.arms.l.length) (n0 c))) ∧ sumL ((c.groups.l.take b).map (fun g : Group => g.buckets.l.length)) (sumL (c.blocks.l.map fun b => b.code.l.length) (sumL (c.nodes.l.map fun x => x.arms.l.length) (n0 c))) < 1300)) (fun b => c.groups.l.length - b) 0 rfl ⟨by simp, rfl, h3⟩ ?_
          rintro i h n ⟨hi, rfl, hs⟩ ih
          repeat (first | refine W.seq ?_ | refine W.ops ?_ | refine WL.off rfl rfl ?_ | refine WL.val rfl rfl rfl ?_ | refine WL.nil ?_ | refine W.block ?_ | refine W.outBlock ?_ | refine W.skip ?_ | refine W.exit rfl ?_ | refine WL.box rfl rfl rfl ?_ | refine W.opsD ?_ | refine W.condT rfl ?_ | refine W.condF rfl ?_)
          refine WL.splitG rfl (fun hb2 => ?_) (fun hb2 => ?_)
          · have hlt : i < c.groups.l.length := by simpa using hb2
            repeat (first | refine W.seq ?_ | refine W.ops ?_ | refine WL.off rfl rfl ?_ | refine WL.val rfl rfl rfl ?_ | refine WL.nil ?_ | refine W.block ?_ | refine W.outBlock ?_ | refine W.skip ?_ | refine W.exit rfl ?_ | refine WL.box rfl rfl rfl ?_ | refine W.opsD ?_ | refine W.condT rfl ?_ | refine W.condF rfl ?_)
            refine W.condS rfl (fun hb3 => ?_) (fun hb3 => ?_)
            · have hb3' : sumL ((c.groups.l.take i).map (fun g : Group => g.buckets.l.length)) (sumL (c.blocks.l.map fun b => b.code.l.length) (sumL (c.nodes.l.map fun x => x.arms.l.length) (n0 c))) < 600 := of_decide_eq_true hb3
              repeat (first | refine W.seq ?_ | refine W.ops ?_ | refine WL.off rfl rfl ?_ | refine WL.val rfl rfl rfl ?_ | refine WL.nil ?_ | refine W.block ?_ | refine W.outBlock ?_ | refine W.skip ?_ | refine W.exit rfl ?_ | refine WL.box rfl rfl rfl ?_ | refine W.opsD ?_ | refine W.condT rfl ?_ | refine W.condF rfl ?_)
              refine WL.val rfl (aop_iaddr_p rfl rfl hlt) rfl ?_
              repeat (first | refine W.seq ?_ | refine W.ops ?_ | refine WL.off rfl rfl ?_ | refine WL.val rfl rfl rfl ?_ | refine WL.nil ?_ | refine W.block ?_ | refine W.outBlock ?_ | refine W.skip ?_ | refine W.exit rfl ?_ | refine WL.box rfl rfl rfl ?_ | refine W.opsD ?_ | refine W.condT rfl ?_ | refine W.condF rfl ?_)
              refine WL.val rfl (aop_load_el (enc := Group.enc) (o := 3) rfl (fun _ => rfl) hlt (by decide) rfl) rfl ?_
              repeat (first | refine W.seq ?_ | refine W.ops ?_ | refine WL.off rfl rfl ?_ | refine WL.val rfl rfl rfl ?_ | refine WL.nil ?_ | refine W.block ?_ | refine W.outBlock ?_ | refine W.skip ?_ | refine W.exit rfl ?_ | refine WL.box rfl rfl rfl ?_ | refine W.opsD ?_ | refine W.condT rfl ?_ | refine W.condF rfl ?_)
              have es : IntKind.wrap .i64 (sumL ((c.groups.l.take i).map (fun g : Group => g.buckets.l.length)) (sumL (c.blocks.l.map fun b => b.code.l.length) (sumL (c.nodes.l.map fun x => x.arms.l.length) (n0 c))) + min 600 (((fun g : Group => g.buckets.l.length) c.groups.l[i] : Nat) : Int)) = sumL ((c.groups.l.take (i + 1)).map (fun g : Group => g.buckets.l.length)) (sumL (c.blocks.l.map fun b => b.code.l.length) (sumL (c.nodes.l.map fun x => x.arms.l.length) (n0 c))) := by
                rw [sumL_snoc (fun g : Group => g.buckets.l.length) c.groups.l (sumL (c.blocks.l.map fun b => b.code.l.length) (sumL (c.nodes.l.map fun x => x.arms.l.length) (n0 c))) hlt, wrap64 (by omega) (by omega)]; unfold stepL; rw [if_pos hb3']
              refine ih (i + 1) _ _ _ ⟨hlt, rfl, ?_⟩ (by omega) (by rw [← wrap64_nat (k := i) (by omega), ← es]; rfl)
              rw [← es, wrap64 (by omega) (by omega)]; omega
            · have hb3' := of_decide_eq_false hb3
              have es : sumL ((c.groups.l.take i).map (fun g : Group => g.buckets.l.length)) (sumL (c.blocks.l.map fun b => b.code.l.length) (sumL (c.nodes.l.map fun x => x.arms.l.length) (n0 c))) = sumL (c.groups.l.map (fun g : Group => g.buckets.l.length)) (sumL (c.blocks.l.map fun b => b.code.l.length) (sumL (c.nodes.l.map fun x => x.arms.l.length) (n0 c))) := (sumL_stop (fun g : Group => g.buckets.l.length) c.groups.l (sumL (c.blocks.l.map fun b => b.code.l.length) (sumL (c.nodes.l.map fun x => x.arms.l.length) (n0 c))) (by omega)).symm
              clear ih
              rw [es] at hs ⊢
              repeat (first | refine W.seq ?_ | refine W.ops ?_ | refine WL.off rfl rfl ?_ | refine WL.val rfl rfl rfl ?_ | refine WL.nil ?_ | refine W.block ?_ | refine W.outBlock ?_ | refine W.skip ?_ | refine W.exit rfl ?_ | refine WL.box rfl rfl rfl ?_ | refine W.opsD ?_ | refine W.condT rfl ?_ | refine W.condF rfl ?_)
              exact W.ret ⟨_, rfl, retB (by unfold largeB; rw [if_neg h0]; rfl)⟩
          · have hge : i = c.groups.l.length := by simp at hb2; omega
            subst hge
            rw [List.take_length] at hs ⊢
            clear ih
            repeat (first | refine W.seq ?_ | refine W.ops ?_ | refine WL.off rfl rfl ?_ | refine WL.val rfl rfl rfl ?_ | refine WL.nil ?_ | refine W.block ?_ | refine W.outBlock ?_ | refine W.skip ?_ | refine W.exit rfl ?_ | refine WL.box rfl rfl rfl ?_ | refine W.opsD ?_ | refine W.condT rfl ?_ | refine W.condF rfl ?_)
            exact W.ret ⟨_, rfl, retB (by unfold largeB; rw [if_neg h0]; rfl)⟩
      · have hge : i = c.blocks.l.length := by simp at hb2; omega
        subst hge
        rw [List.take_length] at hs ⊢
        clear ih
        repeat (first | refine W.seq ?_ | refine W.ops ?_ | refine WL.off rfl rfl ?_ | refine WL.val rfl rfl rfl ?_ | refine WL.nil ?_ | refine W.block ?_ | refine W.outBlock ?_ | refine W.skip ?_ | refine W.exit rfl ?_ | refine WL.box rfl rfl rfl ?_ | refine W.opsD ?_ | refine W.condT rfl ?_ | refine W.condF rfl ?_)
        have h3 := hs
        refine W.loopE (E0 := envOf [(1, _), (3, _), (6, _)]) rfl (β := Nat) (fun b => [(3, .v (.int .i64 (sumL ((c.groups.l.take b).map (fun g : Group => g.buckets.l.length)) (sumL (c.blocks.l.map fun b => b.code.l.length) (sumL (c.nodes.l.map fun x => x.arms.l.length) (n0 c)))))), (6, .v (.int .i64 b))])
          (fun b h n => b ≤ c.groups.l.length ∧ h = Heap.empty ∧ (0 ≤ sumL ((c.groups.l.take b).map (fun g : Group => g.buckets.l.length)) (sumL (c.blocks.l.map fun b => b.code.l.length) (sumL (c.nodes.l.map fun x => x.arms.l.length) (n0 c))) ∧ sumL ((c.groups.l.take b).map (fun g : Group => g.buckets.l.length)) (sumL (c.blocks.l.map fun b => b.code.l.length) (sumL (c.nodes.l.map fun x => x.arms.l.length) (n0 c))) < 1300)) (fun b => c.groups.l.length - b) 0 rfl ⟨by simp, rfl, h3⟩ ?_
        rintro i h n ⟨hi, rfl, hs⟩ ih
        repeat (first | refine W.seq ?_ | refine W.ops ?_ | refine WL.off rfl rfl ?_ | refine WL.val rfl rfl rfl ?_ | refine WL.nil ?_ | refine W.block ?_ | refine W.outBlock ?_ | refine W.skip ?_ | refine W.exit rfl ?_ | refine WL.box rfl rfl rfl ?_ | refine W.opsD ?_ | refine W.condT rfl ?_ | refine W.condF rfl ?_)
        refine WL.splitG rfl (fun hb2 => ?_) (fun hb2 => ?_)
        · have hlt : i < c.groups.l.length := by simpa using hb2
          repeat (first | refine W.seq ?_ | refine W.ops ?_ | refine WL.off rfl rfl ?_ | refine WL.val rfl rfl rfl ?_ | refine WL.nil ?_ | refine W.block ?_ | refine W.outBlock ?_ | refine W.skip ?_ | refine W.exit rfl ?_ | refine WL.box rfl rfl rfl ?_ | refine W.opsD ?_ | refine W.condT rfl ?_ | refine W.condF rfl ?_)
          refine W.condS rfl (fun hb3 => ?_) (fun hb3 => ?_)
          · have hb3' : sumL ((c.groups.l.take i).map (fun g : Group => g.buckets.l.length)) (sumL (c.blocks.l.map fun b => b.code.l.length) (sumL (c.nodes.l.map fun x => x.arms.l.length) (n0 c))) < 600 := of_decide_eq_true hb3
            repeat (first | refine W.seq ?_ | refine W.ops ?_ | refine WL.off rfl rfl ?_ | refine WL.val rfl rfl rfl ?_ | refine WL.nil ?_ | refine W.block ?_ | refine W.outBlock ?_ | refine W.skip ?_ | refine W.exit rfl ?_ | refine WL.box rfl rfl rfl ?_ | refine W.opsD ?_ | refine W.condT rfl ?_ | refine W.condF rfl ?_)
            refine WL.val rfl (aop_iaddr_p rfl rfl hlt) rfl ?_
            repeat (first | refine W.seq ?_ | refine W.ops ?_ | refine WL.off rfl rfl ?_ | refine WL.val rfl rfl rfl ?_ | refine WL.nil ?_ | refine W.block ?_ | refine W.outBlock ?_ | refine W.skip ?_ | refine W.exit rfl ?_ | refine WL.box rfl rfl rfl ?_ | refine W.opsD ?_ | refine W.condT rfl ?_ | refine W.condF rfl ?_)
            refine WL.val rfl (aop_load_el (enc := Group.enc) (o := 3) rfl (fun _ => rfl) hlt (by decide) rfl) rfl ?_
            repeat (first | refine W.seq ?_ | refine W.ops ?_ | refine WL.off rfl rfl ?_ | refine WL.val rfl rfl rfl ?_ | refine WL.nil ?_ | refine W.block ?_ | refine W.outBlock ?_ | refine W.skip ?_ | refine W.exit rfl ?_ | refine WL.box rfl rfl rfl ?_ | refine W.opsD ?_ | refine W.condT rfl ?_ | refine W.condF rfl ?_)
            have es : IntKind.wrap .i64 (sumL ((c.groups.l.take i).map (fun g : Group => g.buckets.l.length)) (sumL (c.blocks.l.map fun b => b.code.l.length) (sumL (c.nodes.l.map fun x => x.arms.l.length) (n0 c))) + min 600 (((fun g : Group => g.buckets.l.length) c.groups.l[i] : Nat) : Int)) = sumL ((c.groups.l.take (i + 1)).map (fun g : Group => g.buckets.l.length)) (sumL (c.blocks.l.map fun b => b.code.l.length) (sumL (c.nodes.l.map fun x => x.arms.l.length) (n0 c))) := by
              rw [sumL_snoc (fun g : Group => g.buckets.l.length) c.groups.l (sumL (c.blocks.l.map fun b => b.code.l.length) (sumL (c.nodes.l.map fun x => x.arms.l.length) (n0 c))) hlt, wrap64 (by omega) (by omega)]; unfold stepL; rw [if_pos hb3']
            refine ih (i + 1) _ _ _ ⟨hlt, rfl, ?_⟩ (by omega) (by rw [← wrap64_nat (k := i) (by omega), ← es]; rfl)
            rw [← es, wrap64 (by omega) (by omega)]; omega
          · have hb3' := of_decide_eq_false hb3
            have es : sumL ((c.groups.l.take i).map (fun g : Group => g.buckets.l.length)) (sumL (c.blocks.l.map fun b => b.code.l.length) (sumL (c.nodes.l.map fun x => x.arms.l.length) (n0 c))) = sumL (c.groups.l.map (fun g : Group => g.buckets.l.length)) (sumL (c.blocks.l.map fun b => b.code.l.length) (sumL (c.nodes.l.map fun x => x.arms.l.length) (n0 c))) := (sumL_stop (fun g : Group => g.buckets.l.length) c.groups.l (sumL (c.blocks.l.map fun b => b.code.l.length) (sumL (c.nodes.l.map fun x => x.arms.l.length) (n0 c))) (by omega)).symm
            clear ih
            rw [es] at hs ⊢
            repeat (first | refine W.seq ?_ | refine W.ops ?_ | refine WL.off rfl rfl ?_ | refine WL.val rfl rfl rfl ?_ | refine WL.nil ?_ | refine W.block ?_ | refine W.outBlock ?_ | refine W.skip ?_ | refine W.exit rfl ?_ | refine WL.box rfl rfl rfl ?_ | refine W.opsD ?_ | refine W.condT rfl ?_ | refine W.condF rfl ?_)
            exact W.ret ⟨_, rfl, retB (by unfold largeB; rw [if_neg h0]; rfl)⟩
        · have hge : i = c.groups.l.length := by simp at hb2; omega
          subst hge
          rw [List.take_length] at hs ⊢
          clear ih
          repeat (first | refine W.seq ?_ | refine W.ops ?_ | refine WL.off rfl rfl ?_ | refine WL.val rfl rfl rfl ?_ | refine WL.nil ?_ | refine W.block ?_ | refine W.outBlock ?_ | refine W.skip ?_ | refine W.exit rfl ?_ | refine WL.box rfl rfl rfl ?_ | refine W.opsD ?_ | refine W.condT rfl ?_ | refine W.condF rfl ?_)
          exact W.ret ⟨_, rfl, retB (by unfold largeB; rw [if_neg h0]; rfl)⟩
  · have hge : i = c.nodes.l.length := by simp at hb2; omega
    subst hge
    rw [List.take_length] at hs ⊢
    clear ih
    repeat (first | refine W.seq ?_ | refine W.ops ?_ | refine WL.off rfl rfl ?_ | refine WL.val rfl rfl rfl ?_ | refine WL.nil ?_ | refine W.block ?_ | refine W.outBlock ?_ | refine W.skip ?_ | refine W.exit rfl ?_ | refine WL.box rfl rfl rfl ?_ | refine W.opsD ?_ | refine W.condT rfl ?_ | refine W.condF rfl ?_)
    have h2 := hs
    refine W.loopE (E0 := envOf [(1, _), (3, _), (5, _)]) rfl (β := Nat) (fun b => [(3, .v (.int .i64 (sumL ((c.blocks.l.take b).map (fun b : Block => b.code.l.length)) (sumL (c.nodes.l.map fun x => x.arms.l.length) (n0 c))))), (5, .v (.int .i64 b))])
      (fun b h n => b ≤ c.blocks.l.length ∧ h = Heap.empty ∧ (0 ≤ sumL ((c.blocks.l.take b).map (fun b : Block => b.code.l.length)) (sumL (c.nodes.l.map fun x => x.arms.l.length) (n0 c)) ∧ sumL ((c.blocks.l.take b).map (fun b : Block => b.code.l.length)) (sumL (c.nodes.l.map fun x => x.arms.l.length) (n0 c)) < 1300)) (fun b => c.blocks.l.length - b) 0 rfl ⟨by simp, rfl, h2⟩ ?_
    rintro i h n ⟨hi, rfl, hs⟩ ih
    repeat (first | refine W.seq ?_ | refine W.ops ?_ | refine WL.off rfl rfl ?_ | refine WL.val rfl rfl rfl ?_ | refine WL.nil ?_ | refine W.block ?_ | refine W.outBlock ?_ | refine W.skip ?_ | refine W.exit rfl ?_ | refine WL.box rfl rfl rfl ?_ | refine W.opsD ?_ | refine W.condT rfl ?_ | refine W.condF rfl ?_)
    refine WL.splitG rfl (fun hb2 => ?_) (fun hb2 => ?_)
    · have hlt : i < c.blocks.l.length := by simpa using hb2
      repeat (first | refine W.seq ?_ | refine W.ops ?_ | refine WL.off rfl rfl ?_ | refine WL.val rfl rfl rfl ?_ | refine WL.nil ?_ | refine W.block ?_ | refine W.outBlock ?_ | refine W.skip ?_ | refine W.exit rfl ?_ | refine WL.box rfl rfl rfl ?_ | refine W.opsD ?_ | refine W.condT rfl ?_ | refine W.condF rfl ?_)
      refine W.condS rfl (fun hb3 => ?_) (fun hb3 => ?_)
      · have hb3' : sumL ((c.blocks.l.take i).map (fun b : Block => b.code.l.length)) (sumL (c.nodes.l.map fun x => x.arms.l.length) (n0 c)) < 600 := of_decide_eq_true hb3
        repeat (first | refine W.seq ?_ | refine W.ops ?_ | refine WL.off rfl rfl ?_ | refine WL.val rfl rfl rfl ?_ | refine WL.nil ?_ | refine W.block ?_ | refine W.outBlock ?_ | refine W.skip ?_ | refine W.exit rfl ?_ | refine WL.box rfl rfl rfl ?_ | refine W.opsD ?_ | refine W.condT rfl ?_ | refine W.condF rfl ?_)
        refine WL.val rfl (aop_iaddr_p rfl rfl hlt) rfl ?_
        repeat (first | refine W.seq ?_ | refine W.ops ?_ | refine WL.off rfl rfl ?_ | refine WL.val rfl rfl rfl ?_ | refine WL.nil ?_ | refine W.block ?_ | refine W.outBlock ?_ | refine W.skip ?_ | refine W.exit rfl ?_ | refine WL.box rfl rfl rfl ?_ | refine W.opsD ?_ | refine W.condT rfl ?_ | refine W.condF rfl ?_)
        refine WL.val rfl (aop_load_el (enc := Block.enc) (o := 1) rfl (fun _ => rfl) hlt (by decide) rfl) rfl ?_
        repeat (first | refine W.seq ?_ | refine W.ops ?_ | refine WL.off rfl rfl ?_ | refine WL.val rfl rfl rfl ?_ | refine WL.nil ?_ | refine W.block ?_ | refine W.outBlock ?_ | refine W.skip ?_ | refine W.exit rfl ?_ | refine WL.box rfl rfl rfl ?_ | refine W.opsD ?_ | refine W.condT rfl ?_ | refine W.condF rfl ?_)
        have es : IntKind.wrap .i64 (sumL ((c.blocks.l.take i).map (fun b : Block => b.code.l.length)) (sumL (c.nodes.l.map fun x => x.arms.l.length) (n0 c)) + min 600 (((fun b : Block => b.code.l.length) c.blocks.l[i] : Nat) : Int)) = sumL ((c.blocks.l.take (i + 1)).map (fun b : Block => b.code.l.length)) (sumL (c.nodes.l.map fun x => x.arms.l.length) (n0 c)) := by
          rw [sumL_snoc (fun b : Block => b.code.l.length) c.blocks.l (sumL (c.nodes.l.map fun x => x.arms.l.length) (n0 c)) hlt, wrap64 (by omega) (by omega)]; unfold stepL; rw [if_pos hb3']
        refine ih (i + 1) _ _ _ ⟨hlt, rfl, ?_⟩ (by omega) (by rw [← wrap64_nat (k := i) (by omega), ← es]; rfl)
        rw [← es, wrap64 (by omega) (by omega)]; omega
      · have hb3' := of_decide_eq_false hb3
        have es : sumL ((c.blocks.l.take i).map (fun b : Block => b.code.l.length)) (sumL (c.nodes.l.map fun x => x.arms.l.length) (n0 c)) = sumL (c.blocks.l.map (fun b : Block => b.code.l.length)) (sumL (c.nodes.l.map fun x => x.arms.l.length) (n0 c)) := (sumL_stop (fun b : Block => b.code.l.length) c.blocks.l (sumL (c.nodes.l.map fun x => x.arms.l.length) (n0 c)) (by omega)).symm
        clear ih
        rw [es] at hs ⊢
        repeat (first | refine W.seq ?_ | refine W.ops ?_ | refine WL.off rfl rfl ?_ | refine WL.val rfl rfl rfl ?_ | refine WL.nil ?_ | refine W.block ?_ | refine W.outBlock ?_ | refine W.skip ?_ | refine W.exit rfl ?_ | refine WL.box rfl rfl rfl ?_ | refine W.opsD ?_ | refine W.condT rfl ?_ | refine W.condF rfl ?_)
        have h3 := hs
        refine W.loopE (E0 := envOf [(1, _), (3, _), (6, _)]) rfl (β := Nat) (fun b => [(3, .v (.int .i64 (sumL ((c.groups.l.take b).map (fun g : Group => g.buckets.l.length)) (sumL (c.blocks.l.map fun b => b.code.l.length) (sumL (c.nodes.l.map fun x => x.arms.l.length) (n0 c)))))), (6, .v (.int .i64 b))])
          (fun b h n => b ≤ c.groups.l.length ∧ h = Heap.empty ∧ (0 ≤ sumL ((c.groups.l.take b).map (fun g : Group => g.buckets.l.length)) (sumL (c.blocks.l.map fun b => b.code.l.length) (sumL (c.nodes.l.map fun x => x.arms.l.length) (n0 c))) ∧ sumL ((c.groups.l.take b).map (fun g : Group => g.buckets.l.length)) (sumL (c.blocks.l.map fun b => b.code.l.length) (sumL (c.nodes.l.map fun x => x.arms.l.length) (n0 c))) < 1300)) (fun b => c.groups.l.length - b) 0 rfl ⟨by simp, rfl, h3⟩ ?_
        rintro i h n ⟨hi, rfl, hs⟩ ih
        repeat (first | refine W.seq ?_ | refine W.ops ?_ | refine WL.off rfl rfl ?_ | refine WL.val rfl rfl rfl ?_ | refine WL.nil ?_ | refine W.block ?_ | refine W.outBlock ?_ | refine W.skip ?_ | refine W.exit rfl ?_ | refine WL.box rfl rfl rfl ?_ | refine W.opsD ?_ | refine W.condT rfl ?_ | refine W.condF rfl ?_)
        refine WL.splitG rfl (fun hb2 => ?_) (fun hb2 => ?_)
        · have hlt : i < c.groups.l.length := by simpa using hb2
          repeat (first | refine W.seq ?_ | refine W.ops ?_ | refine WL.off rfl rfl ?_ | refine WL.val rfl rfl rfl ?_ | refine WL.nil ?_ | refine W.block ?_ | refine W.outBlock ?_ | refine W.skip ?_ | refine W.exit rfl ?_ | refine WL.box rfl rfl rfl ?_ | refine W.opsD ?_ | refine W.condT rfl ?_ | refine W.condF rfl ?_)
          refine W.condS rfl (fun hb3 => ?_) (fun hb3 => ?_)
          · have hb3' : sumL ((c.groups.l.take i).map (fun g : Group => g.buckets.l.length)) (sumL (c.blocks.l.map fun b => b.code.l.length) (sumL (c.nodes.l.map fun x => x.arms.l.length) (n0 c))) < 600 := of_decide_eq_true hb3
            repeat (first | refine W.seq ?_ | refine W.ops ?_ | refine WL.off rfl rfl ?_ | refine WL.val rfl rfl rfl ?_ | refine WL.nil ?_ | refine W.block ?_ | refine W.outBlock ?_ | refine W.skip ?_ | refine W.exit rfl ?_ | refine WL.box rfl rfl rfl ?_ | refine W.opsD ?_ | refine W.condT rfl ?_ | refine W.condF rfl ?_)
            refine WL.val rfl (aop_iaddr_p rfl rfl hlt) rfl ?_
            repeat (first | refine W.seq ?_ | refine W.ops ?_ | refine WL.off rfl rfl ?_ | refine WL.val rfl rfl rfl ?_ | refine WL.nil ?_ | refine W.block ?_ | refine W.outBlock ?_ | refine W.skip ?_ | refine W.exit rfl ?_ | refine WL.box rfl rfl rfl ?_ | refine W.opsD ?_ | refine W.condT rfl ?_ | refine W.condF rfl ?_)
            refine WL.val rfl (aop_load_el (enc := Group.enc) (o := 3) rfl (fun _ => rfl) hlt (by decide) rfl) rfl ?_
            repeat (first | refine W.seq ?_ | refine W.ops ?_ | refine WL.off rfl rfl ?_ | refine WL.val rfl rfl rfl ?_ | refine WL.nil ?_ | refine W.block ?_ | refine W.outBlock ?_ | refine W.skip ?_ | refine W.exit rfl ?_ | refine WL.box rfl rfl rfl ?_ | refine W.opsD ?_ | refine W.condT rfl ?_ | refine W.condF rfl ?_)
            have es : IntKind.wrap .i64 (sumL ((c.groups.l.take i).map (fun g : Group => g.buckets.l.length)) (sumL (c.blocks.l.map fun b => b.code.l.length) (sumL (c.nodes.l.map fun x => x.arms.l.length) (n0 c))) + min 600 (((fun g : Group => g.buckets.l.length) c.groups.l[i] : Nat) : Int)) = sumL ((c.groups.l.take (i + 1)).map (fun g : Group => g.buckets.l.length)) (sumL (c.blocks.l.map fun b => b.code.l.length) (sumL (c.nodes.l.map fun x => x.arms.l.length) (n0 c))) := by
              rw [sumL_snoc (fun g : Group => g.buckets.l.length) c.groups.l (sumL (c.blocks.l.map fun b => b.code.l.length) (sumL (c.nodes.l.map fun x => x.arms.l.length) (n0 c))) hlt, wrap64 (by omega) (by omega)]; unfold stepL; rw [if_pos hb3']
            refine ih (i + 1) _ _ _ ⟨hlt, rfl, ?_⟩ (by omega) (by rw [← wrap64_nat (k := i) (by omega), ← es]; rfl)
            rw [← es, wrap64 (by omega) (by omega)]; omega
          · have hb3' := of_decide_eq_false hb3
            have es : sumL ((c.groups.l.take i).map (fun g : Group => g.buckets.l.length)) (sumL (c.blocks.l.map fun b => b.code.l.length) (sumL (c.nodes.l.map fun x => x.arms.l.length) (n0 c))) = sumL (c.groups.l.map (fun g : Group => g.buckets.l.length)) (sumL (c.blocks.l.map fun b => b.code.l.length) (sumL (c.nodes.l.map fun x => x.arms.l.length) (n0 c))) := (sumL_stop (fun g : Group => g.buckets.l.length) c.groups.l (sumL (c.blocks.l.map fun b => b.code.l.length) (sumL (c.nodes.l.map fun x => x.arms.l.length) (n0 c))) (by omega)).symm
            clear ih
            rw [es] at hs ⊢
            repeat (first | refine W.seq ?_ | refine W.ops ?_ | refine WL.off rfl rfl ?_ | refine WL.val rfl rfl rfl ?_ | refine WL.nil ?_ | refine W.block ?_ | refine W.outBlock ?_ | refine W.skip ?_ | refine W.exit rfl ?_ | refine WL.box rfl rfl rfl ?_ | refine W.opsD ?_ | refine W.condT rfl ?_ | refine W.condF rfl ?_)
            exact W.ret ⟨_, rfl, retB (by unfold largeB; rw [if_neg h0]; rfl)⟩
        · have hge : i = c.groups.l.length := by simp at hb2; omega
          subst hge
          rw [List.take_length] at hs ⊢
          clear ih
          repeat (first | refine W.seq ?_ | refine W.ops ?_ | refine WL.off rfl rfl ?_ | refine WL.val rfl rfl rfl ?_ | refine WL.nil ?_ | refine W.block ?_ | refine W.outBlock ?_ | refine W.skip ?_ | refine W.exit rfl ?_ | refine WL.box rfl rfl rfl ?_ | refine W.opsD ?_ | refine W.condT rfl ?_ | refine W.condF rfl ?_)
          exact W.ret ⟨_, rfl, retB (by unfold largeB; rw [if_neg h0]; rfl)⟩
    · have hge : i = c.blocks.l.length := by simp at hb2; omega
      subst hge
      rw [List.take_length] at hs ⊢
      clear ih
      repeat (first | refine W.seq ?_ | refine W.ops ?_ | refine WL.off rfl rfl ?_ | refine WL.val rfl rfl rfl ?_ | refine WL.nil ?_ | refine W.block ?_ | refine W.outBlock ?_ | refine W.skip ?_ | refine W.exit rfl ?_ | refine WL.box rfl rfl rfl ?_ | refine W.opsD ?_ | refine W.condT rfl ?_ | refine W.condF rfl ?_)
      have h3 := hs
      refine W.loopE (E0 := envOf [(1, _), (3, _), (6, _)]) rfl (β := Nat) (fun b => [(3, .v (.int .i64 (sumL ((c.groups.l.take b).map (fun g : Group => g.buckets.l.length)) (sumL (c.blocks.l.map fun b => b.code.l.length) (sumL (c.nodes.l.map fun x => x.arms.l.length) (n0 c)))))), (6, .v (.int .i64 b))])
        (fun b h n => b ≤ c.groups.l.length ∧ h = Heap.empty ∧ (0 ≤ sumL ((c.groups.l.take b).map (fun g : Group => g.buckets.l.length)) (sumL (c.blocks.l.map fun b => b.code.l.length) (sumL (c.nodes.l.map fun x => x.arms.l.length) (n0 c))) ∧ sumL ((c.groups.l.take b).map (fun g : Group => g.buckets.l.length)) (sumL (c.blocks.l.map fun b => b.code.l.length) (sumL (c.nodes.l.map fun x => x.arms.l.length) (n0 c))) < 1300)) (fun b => c.groups.l.length - b) 0 rfl ⟨by simp, rfl, h3⟩ ?_
      rintro i h n ⟨hi, rfl, hs⟩ ih
      repeat (first | refine W.seq ?_ | refine W.ops ?_ | refine WL.off rfl rfl ?_ | refine WL.val rfl rfl rfl ?_ | refine WL.nil ?_ | refine W.block ?_ | refine W.outBlock ?_ | refine W.skip ?_ | refine W.exit rfl ?_ | refine WL.box rfl rfl rfl ?_ | refine W.opsD ?_ | refine W.condT rfl ?_ | refine W.condF rfl ?_)
      refine WL.splitG rfl (fun hb2 => ?_) (fun hb2 => ?_)
      · have hlt : i < c.groups.l.length := by simpa using hb2
        repeat (first | refine W.seq ?_ | refine W.ops ?_ | refine WL.off rfl rfl ?_ | refine WL.val rfl rfl rfl ?_ | refine WL.nil ?_ | refine W.block ?_ | refine W.outBlock ?_ | refine W.skip ?_ | refine W.exit rfl ?_ | refine WL.box rfl rfl rfl ?_ | refine W.opsD ?_ | refine W.condT rfl ?_ | refine W.condF rfl ?_)
        refine W.condS rfl (fun hb3 => ?_) (fun hb3 => ?_)
        · have hb3' : sumL ((c.groups.l.take i).map (fun g : Group => g.buckets.l.length)) (sumL (c.blocks.l.map fun b => b.code.l.length) (sumL (c.nodes.l.map fun x => x.arms.l.length) (n0 c))) < 600 := of_decide_eq_true hb3
          repeat (first | refine W.seq ?_ | refine W.ops ?_ | refine WL.off rfl rfl ?_ | refine WL.val rfl rfl rfl ?_ | refine WL.nil ?_ | refine W.block ?_ | refine W.outBlock ?_ | refine W.skip ?_ | refine W.exit rfl ?_ | refine WL.box rfl rfl rfl ?_ | refine W.opsD ?_ | refine W.condT rfl ?_ | refine W.condF rfl ?_)
          refine WL.val rfl (aop_iaddr_p rfl rfl hlt) rfl ?_
          repeat (first | refine W.seq ?_ | refine W.ops ?_ | refine WL.off rfl rfl ?_ | refine WL.val rfl rfl rfl ?_ | refine WL.nil ?_ | refine W.block ?_ | refine W.outBlock ?_ | refine W.skip ?_ | refine W.exit rfl ?_ | refine WL.box rfl rfl rfl ?_ | refine W.opsD ?_ | refine W.condT rfl ?_ | refine W.condF rfl ?_)
          refine WL.val rfl (aop_load_el (enc := Group.enc) (o := 3) rfl (fun _ => rfl) hlt (by decide) rfl) rfl ?_
          repeat (first | refine W.seq ?_ | refine W.ops ?_ | refine WL.off rfl rfl ?_ | refine WL.val rfl rfl rfl ?_ | refine WL.nil ?_ | refine W.block ?_ | refine W.outBlock ?_ | refine W.skip ?_ | refine W.exit rfl ?_ | refine WL.box rfl rfl rfl ?_ | refine W.opsD ?_ | refine W.condT rfl ?_ | refine W.condF rfl ?_)
          have es : IntKind.wrap .i64 (sumL ((c.groups.l.take i).map (fun g : Group => g.buckets.l.length)) (sumL (c.blocks.l.map fun b => b.code.l.length) (sumL (c.nodes.l.map fun x => x.arms.l.length) (n0 c))) + min 600 (((fun g : Group => g.buckets.l.length) c.groups.l[i] : Nat) : Int)) = sumL ((c.groups.l.take (i + 1)).map (fun g : Group => g.buckets.l.length)) (sumL (c.blocks.l.map fun b => b.code.l.length) (sumL (c.nodes.l.map fun x => x.arms.l.length) (n0 c))) := by
            rw [sumL_snoc (fun g : Group => g.buckets.l.length) c.groups.l (sumL (c.blocks.l.map fun b => b.code.l.length) (sumL (c.nodes.l.map fun x => x.arms.l.length) (n0 c))) hlt, wrap64 (by omega) (by omega)]; unfold stepL; rw [if_pos hb3']
          refine ih (i + 1) _ _ _ ⟨hlt, rfl, ?_⟩ (by omega) (by rw [← wrap64_nat (k := i) (by omega), ← es]; rfl)
          rw [← es, wrap64 (by omega) (by omega)]; omega
        · have hb3' := of_decide_eq_false hb3
          have es : sumL ((c.groups.l.take i).map (fun g : Group => g.buckets.l.length)) (sumL (c.blocks.l.map fun b => b.code.l.length) (sumL (c.nodes.l.map fun x => x.arms.l.length) (n0 c))) = sumL (c.groups.l.map (fun g : Group => g.buckets.l.length)) (sumL (c.blocks.l.map fun b => b.code.l.length) (sumL (c.nodes.l.map fun x => x.arms.l.length) (n0 c))) := (sumL_stop (fun g : Group => g.buckets.l.length) c.groups.l (sumL (c.blocks.l.map fun b => b.code.l.length) (sumL (c.nodes.l.map fun x => x.arms.l.length) (n0 c))) (by omega)).symm
          clear ih
          rw [es] at hs ⊢
          repeat (first | refine W.seq ?_ | refine W.ops ?_ | refine WL.off rfl rfl ?_ | refine WL.val rfl rfl rfl ?_ | refine WL.nil ?_ | refine W.block ?_ | refine W.outBlock ?_ | refine W.skip ?_ | refine W.exit rfl ?_ | refine WL.box rfl rfl rfl ?_ | refine W.opsD ?_ | refine W.condT rfl ?_ | refine W.condF rfl ?_)
          exact W.ret ⟨_, rfl, retB (by unfold largeB; rw [if_neg h0]; rfl)⟩
      · have hge : i = c.groups.l.length := by simp at hb2; omega
        subst hge
        rw [List.take_length] at hs ⊢
        clear ih
        repeat (first | refine W.seq ?_ | refine W.ops ?_ | refine WL.off rfl rfl ?_ | refine WL.val rfl rfl rfl ?_ | refine WL.nil ?_ | refine W.block ?_ | refine W.outBlock ?_ | refine W.skip ?_ | refine W.exit rfl ?_ | refine WL.box rfl rfl rfl ?_ | refine W.opsD ?_ | refine W.condT rfl ?_ | refine W.condF rfl ?_)
        exact W.ret ⟨_, rfl, retB (by unfold largeB; rw [if_neg h0]; rfl)⟩
end
end Go.AM.B

/- What the solver holds, told by the configuration alone. -/
namespace Go.AM.B
noncomputable section
set_option linter.unusedVariables false
set_option linter.unusedSimpArgs false

def tabL (c : Config) (id : Int) : List Int := match c.tables.l.find? fun t => t.id == id with
  | none => []
  | some t => t.miss :: (c.entries.l.filter fun e => e.table == id).map (·.block)
def blkL (c : Config) (id : Int) : List Instr := ((c.blocks.l.find? fun b => b.id == id).map (·.code.l)).getD []

theorem find_addT (id : Int) : ∀ (l : List Table) (s : Solv), (l.foldl addT s).tables.find? (fun t => t.1 == id) = (s.tables.find? fun t => t.1 == id).or ((l.find? fun t => t.id == id).map fun t => (t.id, [t.miss])) := by
  intro l
  induction l with
  | nil => intro s; simp
  | cons t l ih =>
    intro s
    rw [List.foldl_cons, ih]
    unfold addT
    by_cases h : (s.tables.find? fun x => x.1 == t.id).isSome
    · rw [if_pos h]
      by_cases e : t.id = id
      · subst e
        obtain ⟨y, hy⟩ := Option.isSome_iff_exists.1 h
        rw [hy]; rfl
      · have e' : (t.id == id) = false := by simpa using e
        rw [List.find?_cons, e']
    · rw [if_neg h]
      dsimp only
      rw [List.find?_append]
      by_cases e : t.id = id
      · subst e
        have hn : (s.tables.find? fun x => x.1 == t.id) = none := Option.not_isSome_iff_eq_none.1 h
        rw [hn]
        simp
      · have e' : (t.id == id) = false := by simpa using e
        rw [List.find?_cons, List.find?_cons]
        dsimp only
        rw [e']
        simp
theorem find_set (k id b : Int) (X : List Int) : ∀ (l : List (Int × List Int)) (j : Nat), (l.findIdx? fun x => x.1 == k) = some j → X = lookL l k ++ [b] →
    (l.set j (k, X)).find? (fun t => t.1 == id) = (l.find? fun t => t.1 == id).map fun t => if k == id then (t.1, t.2 ++ [b]) else t := by
  intro l
  induction l with
  | nil => intro j h; simp at h
  | cons p r ih =>
    intro j h hX
    rw [List.findIdx?_cons] at h
    by_cases hp : p.1 = k
    · have hp' : (p.1 == k) = true := by simpa using hp
      rw [hp', if_pos rfl] at h
      simp only [Option.some.injEq] at h
      subst h
      simp only [List.set_cons_zero, List.find?_cons]
      have hX2 : X = p.2 ++ [b] := by rw [hX]; unfold lookL; rw [List.find?_cons, hp']; rfl
      by_cases e : k = id
      · subst e
        rw [hp']; simp [hX2, hp]
      · have e' : (k == id) = false := by simpa using e
        rw [hp, e']
        simp
    · have hp' : (p.1 == k) = false := by simpa using hp
      rw [hp'] at h
      simp only [Bool.false_eq_true, if_false] at h
      cases hr : r.findIdx? (fun x => x.1 == k) with
      | none => rw [hr] at h; cases h
      | some i =>
        rw [hr] at h
        simp only [Option.map_some, Option.some.injEq] at h
        subst h
        have hX2 : X = lookL r k ++ [b] := by rw [hX]; unfold lookL; rw [List.find?_cons, hp']
        rw [List.set_cons_succ, List.find?_cons, List.find?_cons]
        cases e : p.1 == id with
        | true =>
          have : k ≠ id := fun h => by rw [h] at hp; exact hp (by simpa using e)
          have : (k == id) = false := by simpa using this
          simp [this]
        | false => exact ih i hr hX2
theorem find_addE (id : Int) (e : Entry) (s : Solv) : (addE s e).tables.find? (fun t => t.1 == id) = (s.tables.find? fun t => t.1 == id).map fun t => if e.table == id then (t.1, t.2 ++ [e.block]) else t := by
  unfold addE
  cases h : s.tables.findIdx? (fun x => x.1 == e.table) with
  | some j => exact find_set _ _ _ _ _ _ h rfl
  | none =>
    dsimp only
    cases hf : s.tables.find? (fun t => t.1 == id) with
    | none => rfl
    | some t =>
      have h1 := List.find?_some hf
      have h2 := List.findIdx?_eq_none_iff.1 h t (List.mem_of_find?_eq_some hf)
      have : (e.table == id) = false := by
        simp only [beq_iff_eq, beq_eq_false_iff_ne, ne_eq] at h1 h2 ⊢
        exact fun e => h2 (by rw [h1, e])
      simp [this]
theorem find_foldE (id : Int) : ∀ (l : List Entry) (s : Solv), (l.foldl addE s).tables.find? (fun t => t.1 == id) = (s.tables.find? fun t => t.1 == id).map fun t => (t.1, t.2 ++ (l.filter fun e => e.table == id).map (·.block)) := by
  intro l
  induction l with
  | nil => intro s; cases h : s.tables.find? (fun t => t.1 == id) <;> simp [h]
  | cons e l ih =>
    intro s
    rw [List.foldl_cons, ih, find_addE]
    cases h : s.tables.find? (fun t => t.1 == id) with
    | none => rfl
    | some t =>
      cases he : e.table == id <;> simp [List.filter_cons, he]
theorem find_foldB (id : Int) : ∀ (l : List Block) (s : Solv), (l.foldl addB s).blocks.find? (fun t => t.1 == id) = (s.blocks.find? fun t => t.1 == id).or ((l.find? fun t => t.id == id).map fun t => (t.id, t.code.l)) := by
  intro l
  induction l with
  | nil => intro s; simp
  | cons t l ih =>
    intro s
    rw [List.foldl_cons, ih]
    unfold addB
    by_cases h : (s.blocks.find? fun x => x.1 == t.id).isSome
    · rw [if_pos h]
      by_cases e : t.id = id
      · subst e
        obtain ⟨y, hy⟩ := Option.isSome_iff_exists.1 h
        rw [hy]; rfl
      · have e' : (t.id == id) = false := by simpa using e
        rw [List.find?_cons, e']
    · rw [if_neg h]
      dsimp only
      rw [List.find?_append]
      by_cases e : t.id = id
      · subst e
        have hn : (s.blocks.find? fun x => x.1 == t.id) = none := Option.not_isSome_iff_eq_none.1 h
        rw [hn]
        simp
      · have e' : (t.id == id) = false := by simpa using e
        rw [List.find?_cons, List.find?_cons]
        dsimp only
        rw [e']
        simp
theorem find_foldG (id : Int) : ∀ (l : List Group) (s : Solv), (l.foldl addG s).groups.find? (fun t => t.id == id) = (s.groups.find? fun t => t.id == id).or (l.find? fun t => t.id == id) := by
  intro l
  induction l with
  | nil => intro s; simp
  | cons t l ih =>
    intro s
    rw [List.foldl_cons, ih]
    unfold addG
    by_cases h : (s.groups.find? fun x => x.id == t.id).isSome
    · rw [if_pos h]
      by_cases e : t.id = id
      · subst e
        obtain ⟨y, hy⟩ := Option.isSome_iff_exists.1 h
        rw [hy]; rfl
      · have e' : (t.id == id) = false := by simpa using e
        rw [List.find?_cons, e']
    · rw [if_neg h]
      dsimp only
      rw [List.find?_append]
      by_cases e : t.id = id
      · subst e
        have hn : (s.groups.find? fun x => x.id == t.id) = none := Option.not_isSome_iff_eq_none.1 h
        rw [hn]
        simp
      · have e' : (t.id == id) = false := by simpa using e
        rw [List.find?_cons, List.find?_cons]
        rw [e']
        simp
theorem solve_find (c : Config) (id : Int) : (solve c).tables.find? (fun t => t.1 == id) = (c.tables.l.find? fun t => t.id == id).map fun t => (t.id, t.miss :: (c.entries.l.filter fun e => e.table == id).map (·.block)) := by
  have e : (solve c).tables = (solve2 c).tables := (foldG _ _).1.trans (foldB _ _).1
  rw [e]
  show ((c.entries.l.foldl addE (solve1 c)).tables.find? _) = _
  rw [find_foldE]
  show ((c.tables.l.foldl addT ⟨[], [], [], []⟩).tables.find? _).map _ = _
  rw [find_addT]
  cases c.tables.l.find? (fun t => t.id == id) <;> simp
theorem solve_tab (c : Config) (id : Int) : lookL (solve c).tables id = tabL c id := by
  unfold lookL tabL
  rw [solve_find]
  cases c.tables.l.find? (fun t => t.id == id) <;> rfl
theorem solve_has (c : Config) (id : Int) : ((solve c).tables.find? fun t => t.1 == id).isSome = (c.tables.l.find? fun t => t.id == id).isSome := by
  rw [solve_find]; simp
theorem solve_blk (c : Config) (id : Int) : lookL (solve c).blocks id = blkL c id := by
  have e : (solve c).blocks = (solve3 c).blocks := (foldG _ _).2.1
  have e2 : (solve2 c).blocks = [] := (foldE _ _).1.trans (foldT _ _).1
  unfold lookL blkL
  rw [e]
  show (((c.blocks.l.foldl addB (solve2 c)).blocks.find? _).map _).getD _ = _
  rw [find_foldB, e2]
  cases c.blocks.l.find? (fun t => t.id == id) <;> rfl
theorem solve_grp (c : Config) (id : Int) : (solve c).group id = c.groups.l.find? fun g => g.id == id := by
  have e2 : (solve3 c).groups = [] := (foldB _ _).2.1.trans ((foldE _ _).2.1.trans (foldT _ _).2.1)
  unfold Solv.group
  show (c.groups.l.foldl addG (solve3 c)).groups.find? _ = _
  rw [find_foldG, e2]
  simp

/-- What leads where in one leads there in the other: then a cycle of the one is one of the other. -/
theorem acy_mono {s r : Solv} (h : ∀ x, ∀ y ∈ s.leads x, y ∈ r.leads x) (ha : acy r) : acy s :=
  fun x => Subrelation.accessible (fun {a b} hr => h b a hr) (ha x)
theorem find_app {α : Type} (p : α → Bool) (l m : List α) {a : α} (h : l.find? p = some a) : (l ++ m).find? p = some a := by
  rw [List.find?_append, h]; rfl
theorem leads_more {c d : Config} (ht : ∃ m, d.tables.l = c.tables.l ++ m) (he : ∃ m, d.entries.l = c.entries.l ++ m) (hb : ∃ m, d.blocks.l = c.blocks.l ++ m) (hg : ∃ m, d.groups.l = c.groups.l ++ m) :
    ∀ x, ∀ y ∈ (solve c).leads x, y ∈ (solve d).leads x := by
  obtain ⟨mt, ht⟩ := ht
  obtain ⟨me, he⟩ := he
  obtain ⟨mb, hb⟩ := hb
  obtain ⟨mg, hg⟩ := hg
  intro x y hy
  unfold Solv.leads at hy ⊢
  split at hy
  · rename_i h0
    rw [if_pos h0]
    rw [solve_tab] at hy ⊢
    obtain ⟨b, hb1, rfl⟩ := List.mem_map.1 hy
    refine List.mem_map.2 ⟨b, ?_, rfl⟩
    unfold tabL at hb1 ⊢
    cases hf : c.tables.l.find? (fun t => t.id == x.2) with
    | none => rw [hf] at hb1; cases hb1
    | some t =>
      rw [hf] at hb1
      rw [ht, find_app _ _ _ hf, he]
      rcases List.mem_cons.1 hb1 with h1 | h1
      · exact List.mem_cons.2 (.inl h1)
      · refine List.mem_cons.2 (.inr ?_)
        rw [List.filter_append, List.map_append]
        exact List.mem_append.2 (.inl h1)
  · rename_i h0
    rw [if_neg h0]
    split at hy
    · rename_i h1
      rw [if_pos h1]
      rw [solve_blk] at hy ⊢
      unfold blkL at hy ⊢
      cases hf : c.blocks.l.find? (fun t => t.id == x.2) with
      | none => rw [hf] at hy; cases hy
      | some t => rw [hf] at hy; rw [hb, find_app _ _ _ hf]; exact hy
    · rename_i h1
      rw [if_neg h1]
      unfold Solv.buckets at hy ⊢
      rw [solve_grp] at hy ⊢
      cases hf : c.groups.l.find? (fun t => t.id == x.2) with
      | none => rw [hf] at hy; cases hy
      | some t => rw [hf] at hy; rw [hg, find_app _ _ _ hf]; exact hy
theorem cyc_more {c d : Config} (ht : ∃ m, d.tables.l = c.tables.l ++ m) (he : ∃ m, d.entries.l = c.entries.l ++ m) (hb : ∃ m, d.blocks.l = c.blocks.l ++ m) (hg : ∃ m, d.groups.l = c.groups.l ++ m) (h : cycB (solve c) = true) : cycB (solve d) = true := by
  classical
  unfold cycB at h ⊢
  exact decide_eq_true fun ha => of_decide_eq_true h (acy_mono (leads_more ht he hb hg) ha)
/-- A group takes no less than each of its buckets' blocks. -/
theorem fold_ge (k : Int) : ∀ (l : List Int) (n : Int), (∀ r ∈ l, 0 ≤ r ∧ r ≤ 65537) → 0 ≤ n → n ≤ l.foldl (fun n r => if k = 1 then min over (n + r) else max n r) n ∨ 65537 ≤ l.foldl (fun n r => if k = 1 then min over (n + r) else max n r) n := by
  intro l
  induction l with
  | nil => intro n _ _; exact .inl (Int.le_refl _)
  | cons a l ih =>
    intro n hl hn
    obtain ⟨h1, h2⟩ := hl a List.mem_cons_self
    have ho : over = 65537 := rfl
    rw [List.foldl_cons]
    have hs : 0 ≤ (if k = 1 then min over (n + a) else max n a) ∧ (n ≤ (if k = 1 then min over (n + a) else max n a) ∨ 65537 ≤ (if k = 1 then min over (n + a) else max n a)) := by
      split <;> omega
    have := ih (if k = 1 then min over (n + a) else max n a) (fun r hr => hl r (List.mem_cons_of_mem _ hr)) hs.1
    omega
theorem fold_mem (k : Int) : ∀ (l : List Int) (n : Int), (∀ r ∈ l, 0 ≤ r ∧ r ≤ 65537) → 0 ≤ n → ∀ r ∈ l, r ≤ l.foldl (fun n r => if k = 1 then min over (n + r) else max n r) n := by
  intro l
  induction l with
  | nil => intro n _ _ r h; cases h
  | cons a l ih =>
    intro n hl hn r hr
    obtain ⟨h1, h2⟩ := hl a List.mem_cons_self
    have ho : over = 65537 := rfl
    rw [List.foldl_cons]
    have hs : 0 ≤ (if k = 1 then min over (n + a) else max n a) ∧ a ≤ (if k = 1 then min over (n + a) else max n a) := by
      split <;> omega
    have hl' : ∀ r ∈ l, 0 ≤ r ∧ r ≤ 65537 := fun r hr => hl r (List.mem_cons_of_mem _ hr)
    rcases List.mem_cons.1 hr with rfl | hr
    · have := fold_ge k l (if k = 1 then min over (n + r) else max n r) hl' hs.1
      omega
    · exact ih _ hl' hs.1 r hr
theorem group_ge {c : Config} (ha : acy (solve c)) {id : Int} {g : Group} (hg : (c.groups.l.find? fun g => g.id == id) = some g) {b : Bucket} (hb : b ∈ g.buckets.l) : val (solve c) (1, b.block) ≤ val (solve c) (2, id) := by
  have hv := val_bnd ha (val_is ha)
  have e := val_is ha (2, id)
  have e1 : (solve c).buckets id = g.buckets.l := by unfold Solv.buckets; rw [solve_grp, hg]; rfl
  have h0 : comb0 (solve c) (val (solve c)) (2, id) = (g.buckets.l.map fun b => val (solve c) (1, b.block)).foldl (fun n r => if kindOf ((solve c).group id) = 1 then min over (n + r) else max n r) 0 := by
    unfold comb0
    rw [if_neg (fun h => by cases h), if_neg (fun h => by cases h), e1]
  have h1 := fold_mem (kindOf ((solve c).group id)) (g.buckets.l.map fun b => val (solve c) (1, b.block)) 0 (by
    intro r hr
    obtain ⟨b, _, rfl⟩ := List.mem_map.1 hr
    exact hv _) (Int.le_refl _) _ (List.mem_map.2 ⟨b, hb, rfl⟩)
  rw [e]
  unfold comb
  rw [h0]
  have := (hv (1, b.block)).2
  have ho : over = 65537 := rfl
  omega
theorem ofB_bnd {c : Config} (ha : acy (solve c)) (hl : c.nodes.l.length < 100000) : (ofB c).2 = 0 ∧ 0 ≤ (ofB c).1 ∧ (ofB c).1 ≤ 65537 := by
  have hv := val_bnd ha (val_is ha) (0, 1)
  have hL := longB_bnd hl
  have e : bnd (solve c) (0, 1) = (val (solve c) (0, 1), 0) := by simp [bnd, ha]
  unfold ofB
  rw [e, if_pos rfl]
  dsimp only
  omega
end
end Go.AM.B

/- AM, part 27: the run, in small parts: for the kernel, which copies a function's whole text at each step. -/
namespace Go.AM
noncomputable section
set_option linter.unusedVariables false
set_option linter.unusedSimpArgs false

def fCall (call : CallF) (nid : Id) (o : VO) (s : St) (f : FuncId) (args : List Operand) : Option (St × Foot) :=
  match evAs s.env args with
  | some l => match callM call o.mode nid f l s.heap s.next with
    | some (r, h, n) => some ({ env := (putDst s o.dst (.v r)).env, heap := h, next := n }, match o.mode with
      | .eff => ([.heap], [.heap])
      | .pure => ([], [])
      | .view => (flatK (purK purLimit s.heap) l, [])
      | .fresh => ([], [.obj nid])
      | .vfresh => (flatK (purK purLimit s.heap) l, [.obj nid]))
    | none => none
  | none => none
def fCallv (call : CallF) (o : VO) (s : St) (g : Operand) (args : List Operand) : Option (St × Foot) :=
  match evAs s.env args with
  | some l => match target s.env g l with
    | some (f, l) => match call f l s.heap s.next with
      | some (r, h, n) => some ({ env := (putDst s o.dst (.v r)).env, heap := h, next := n }, ([.heap], [.heap]))
      | none => none
    | none => none
  | none => none
def fRest (nid : Id) (o : VO) (s : St) : Option (St × Foot) :=
  match aopF s.env s.heap nid o.dst o.op with
  | some e => some (s.eff o.dst e, (e.rd, e.wr))
  | none => none
def fOn (call : CallF) (nid : Id) (o : VO) (s : St) : Option (St × Foot) :=
  match o.op with
  | .call f args => fCall call nid o s f args
  | .callv g args => fCallv call o s g args
  | op => fRest nid o s
def step1F (call : CallF) (nid : Id) (o : VO) (s : St) : Option (St × Foot) :=
  match o.guard with
  | none => fOn call nid o s
  | g => match wantedA s.env g with
    | some true => fOn call nid o s
    | some false => some (putDst s o.dst (.v (.tuple [])), ([], skipWr o))
    | none => none

theorem fOn_eq (call : CallF) (nid : Id) (o : VO) (s : St) (hw : wantedA s.env o.guard = some true) : fOn call nid o s = step1 call nid o s := by
  unfold fOn step1
  rw [hw]
  simp only
  cases hop : o.op <;> simp only [fCall, fCallv, fRest, aopF_eq, hop] <;> rfl
theorem step1F_eq (call : CallF) (nid : Id) (o : VO) (s : St) : step1F call nid o s = step1 call nid o s := by
  unfold step1F
  split
  · rename_i hg
    exact fOn_eq call nid o s (by rw [hg]; rfl)
  · split
    · rename_i hw; exact fOn_eq call nid o s hw
    · rename_i hw; unfold step1; rw [hw]
    · rename_i hw; unfold step1; rw [hw]

def runLF (call : CallF) (nr : Nat) (i : Nat) (l : List VO) (s : St) : Option St :=
  List.rec (motive := fun _ => Nat → St → Option St) (fun _ s => some s) (fun o _ ih i s => Option.rec none (fun p => Prod.rec (fun s' _ => ih (Nat.succ i) s') p) (step1F call (nr, i) o s)) l i s
theorem runLF_n (call : CallF) (nr i : Nat) (s : St) : runLF call nr i [] s = some s := rfl
theorem runLF_c (call : CallF) (nr i : Nat) (o : VO) (r : List VO) (s : St) : runLF call nr i (o :: r) s = (match step1F call (nr, i) o s with
    | some (s', _) => runLF call nr (i + 1) r s'
    | none => none) := by
  have h : runLF call nr i (o :: r) s = Option.rec (motive := fun _ => Option St) none (fun p => Prod.rec (motive := fun _ => Option St) (fun s' _ => runLF call nr (Nat.succ i) r s') p) (step1F call (nr, i) o s) := rfl
  rw [h]
  cases step1F call (nr, i) o s with
  | none => rfl
  | some p => obtain ⟨s', f⟩ := p; rfl
theorem runLF_eq (call : CallF) (nr : Nat) : ∀ (l : List VO) (i : Nat) (s : St), runLF call nr i l s = runL call nr i l s
  | [], i, s => rfl
  | o :: r, i, s => by
    rw [runLF_c]
    simp only [runL, step1F_eq]
    cases hst : step1 call (nr, i) o s with
    | none => rfl
    | some p =>
      obtain ⟨s', f⟩ := p
      exact runLF_eq call nr r _ _
def runDF (call : CallF) (nr : Nat) (un : List (Nat × Nat)) (e0 : Env) : Nat → List (Nat × Foot) → List VO → St → Option St
  | _, _, [], s => some s
  | i, log, o :: r, s => match step1F call (nr, i) o s with
    | some (s', f) => bif clashes un i f log || !(startOk e0 o) || led o log then none else runDF call nr un e0 (i + 1) ((i, f) :: log) r s'
    | none => none
theorem runDF_eq (call : CallF) (nr : Nat) (un : List (Nat × Nat)) (e0 : Env) : ∀ (l : List VO) (i : Nat) (log : List (Nat × Foot)) (s : St), runDF call nr un e0 i log l s = runD call nr un e0 i log l s
  | [], i, log, s => rfl
  | o :: r, i, log, s => by
    simp only [runDF, runD, step1F_eq]
    cases hst : step1 call (nr, i) o s with
    | none => rfl
    | some p =>
      obtain ⟨s', f⟩ := p
      simp only [runDF_eq call nr un e0 r]

def callWith (T : FuncId → Option VFun) (R : List Item → St → Option St) : CallF := fun f args h next => match T f with
  | some vf => bif vf.nargs == args.length then
      match R [.code vf.body] { env := initEnv 0 args, heap := h, next } with
      | some s' => match readRess s'.env s'.heap vf.results with
        | some l => some (theRes l, s'.heap, s'.next)
        | none => none
      | none => none
    else none
  | none => none
def fOps (call : CallF) (un : Option (List (Nat × Nat))) (l : List VO) (s : St) : Option St :=
  match un with
  | none => runLF call s.next 0 l { s with next := s.next + 1 }
  | some un => runDF call s.next un s.env 0 [] l { s with next := s.next + 1 }
def fThen (R : St → Option St) : Option St → Option St
  | some s => R s
  | none => none
def fCode (T : FuncId → Option VFun) (R : List Item → St → Option St) (t : List Item) (s : St) : VC → Option St
  | .skip => R t s
  | .seq a b => R (.code a :: .code b :: t) s
  | .cond x a b => match evA s.env x with
    | some (.bool true) => R (.code a :: t) s
    | some (.bool false) => R (.code b :: t) s
    | _ => none
  | .block id c => R (.code c :: .inBlock id :: t) s
  | .loop ks c => R (.code c :: .inLoop ks c :: t) { s with env := s.env.kill ks }
  | .exit id => match exitTo id t with
    | some t' => R t' s
    | none => none
  | .ret => some s
  | .ops un l => fThen (R t) (fOps (callWith T R) un l s)
def fItems (T : FuncId → Option VFun) (R : List Item → St → Option St) (s : St) : List Item → Option St
  | [] => some s
  | .inBlock _ :: t => R t s
  | .inLoop ks c :: t => R (.code c :: .inLoop ks c :: t) { s with env := s.env.kill ks }
  | .code c :: t => fCode T R t s c
def runF (T : FuncId → Option VFun) (k : Nat) : List Item → St → Option St :=
  Nat.rec (motive := fun _ => List Item → St → Option St) (fun _ _ => none) (fun _ R items s => fItems T R s items) k
theorem runF_s (T : FuncId → Option VFun) (k : Nat) (items : List Item) (s : St) : runF T (k + 1) items s = fItems T (runF T k) s items := rfl

theorem callWith_eq (T : FuncId → Option VFun) {k : Nat} (h : runF T k = run T k) : callWith T (runF T k) = callT T k := by
  funext f args hp n
  simp only [callWith, callT, h]
  rfl
theorem runF_eq (T : FuncId → Option VFun) : ∀ k, runF T k = run T k
  | 0 => by funext items s; rfl
  | k + 1 => by
    have ih := runF_eq T k
    have hc := callWith_eq T ih
    funext items s
    rw [runF_s]
    cases items with
    | nil => rfl
    | cons i t =>
      cases i with
      | inBlock id => simp only [fItems, ih, run]
      | inLoop ks c => simp only [fItems, ih, run]
      | code c =>
        cases c with
        | ops un l =>
          have hc' : callWith T (run T k) = callT T k := by rw [← ih]; exact hc
          simp only [fItems, fCode, ih, hc', run]
          change _ = match (match un with
            | none => runL (callT T k) s.next 0 l { env := s.env, heap := s.heap, next := s.next + 1 }
            | some un => runD (callT T k) s.next un s.env 0 [] l { env := s.env, heap := s.heap, next := s.next + 1 }) with
            | some s' => run T k t s'
            | none => none
          cases un with
          | none =>
            simp only [fOps, runLF_eq]
            cases runL (callT T k) s.next 0 l { env := s.env, heap := s.heap, next := s.next + 1 } <;> rfl
          | some un =>
            simp only [fOps, runDF_eq]
            cases runD (callT T k) s.next un s.env 0 [] l { env := s.env, heap := s.heap, next := s.next + 1 } <;> rfl
        | _ => simp only [fItems, fCode, ih, run] <;> rfl
def callF (T : FuncId → Option VFun) (k : Nat) : CallF := callWith T (runF T k)
theorem callF_eq (T : FuncId → Option VFun) (k : Nat) : callF T k = callT T k := callWith_eq T (runF_eq T k)
end
end Go.AM

/- AM, part 33: more steps say the same: a run that the kernel has made is a contract. -/
namespace Go.AM
noncomputable section
set_option linter.unusedVariables false
set_option linter.unusedSimpArgs false

def Le (c d : CallF) : Prop := ∀ f a h n r, c f a h n = some r → d f a h n = some r
theorem callM_mono {c d : CallF} (L : Le c d) {md : Mode} {nid : Id} {f : FuncId} {args : List AV} {h : Heap} {n : Nat} {r : AV × Heap × Nat} (H : callM c md nid f args h n = some r) : callM d md nid f args h n = some r := by
  cases md with
  | eff => exact L _ _ _ _ _ H
  | pure =>
    simp only [callM] at H ⊢
    cases hs : stills args
    · rw [hs] at H; cases H
    · rw [hs] at H
      simp only [cond_true] at H ⊢
      cases hc : c f args Heap.empty 0 with
      | none => rw [hc] at H; cases H
      | some p => rw [hc] at H; rw [L _ _ _ _ _ hc]; exact H
  | view =>
    simp only [callM] at H ⊢
    cases hs : mapO (pur purLimit h) args with
    | none => rw [hs] at H; cases H
    | some l =>
      rw [hs] at H
      simp only at H ⊢
      cases hc : c f l Heap.empty 0 with
      | none => rw [hc] at H; cases H
      | some p => rw [hc] at H; rw [L _ _ _ _ _ hc]; exact H
  | fresh =>
    simp only [callM] at H ⊢
    cases hs : stills args
    · rw [hs] at H; cases H
    · rw [hs] at H
      simp only [cond_true] at H ⊢
      cases hc : c f args Heap.empty 0 with
      | none => rw [hc] at H; cases H
      | some p => rw [hc] at H; rw [L _ _ _ _ _ hc]; exact H
  | vfresh =>
    simp only [callM] at H ⊢
    cases hs : mapO (pur purLimit h) args with
    | none => rw [hs] at H; cases H
    | some l =>
      rw [hs] at H
      simp only at H ⊢
      cases hc : c f l Heap.empty 0 with
      | none => rw [hc] at H; cases H
      | some p => rw [hc] at H; rw [L _ _ _ _ _ hc]; exact H
theorem step1_mono {c d : CallF} (L : Le c d) {nid : Id} {o : VO} {s : St} {r : St × Foot} (H : step1 c nid o s = some r) : step1 d nid o s = some r := by
  unfold step1 at H ⊢
  split at H
  · exact H
  · exact H
  · split at H
    · rename_i f args ho
      cases he : evAs s.env args with
      | none => rw [he] at H; cases H
      | some l =>
        rw [he] at H
        simp only at H ⊢
        cases hc : callM c o.mode nid f l s.heap s.next with
        | none => rw [hc] at H; cases H
        | some p => rw [hc] at H; rw [callM_mono L hc]; exact H
    · rename_i g args ho
      cases he : evAs s.env args with
      | none => rw [he] at H; cases H
      | some l =>
        rw [he] at H
        simp only at H ⊢
        cases ht : target s.env g l with
        | none => rw [ht] at H; cases H
        | some p =>
          obtain ⟨f, l'⟩ := p
          rw [ht] at H
          simp only at H ⊢
          cases hc : c f l' s.heap s.next with
          | none => rw [hc] at H; cases H
          | some p => rw [hc] at H; rw [L _ _ _ _ _ hc]; exact H
    · exact H
theorem runL_mono {c d : CallF} (L : Le c d) {nr : Nat} : ∀ {l : List VO} {i : Nat} {s s' : St}, runL c nr i l s = some s' → runL d nr i l s = some s' := by
  intro l
  induction l with
  | nil => intro i s s' h; exact h
  | cons o l ih =>
    intro i s s' h
    simp only [runL] at h ⊢
    cases hs : step1 c (nr, i) o s with
    | none => rw [hs] at h; cases h
    | some p => rw [hs] at h; rw [step1_mono L hs]; exact ih h
theorem runD_mono {c d : CallF} (L : Le c d) {nr : Nat} {un : List (Nat × Nat)} {e0 : Env} : ∀ {l : List VO} {i : Nat} {log : List (Nat × Foot)} {s s' : St}, runD c nr un e0 i log l s = some s' → runD d nr un e0 i log l s = some s' := by
  intro l
  induction l with
  | nil => intro i log s s' h; exact h
  | cons o l ih =>
    intro i log s s' h
    simp only [runD] at h ⊢
    cases hs : step1 c (nr, i) o s with
    | none => rw [hs] at h; cases h
    | some p =>
      obtain ⟨s1, f⟩ := p
      rw [hs] at h
      rw [step1_mono L hs]
      simp only at h ⊢
      cases hc : (clashes un i f log || !(startOk e0 o) || led o log)
      · rw [hc] at h; exact ih h
      · rw [hc] at h; cases h
theorem callT_mono' {T : FuncId → Option VFun} {k : Nat} (h : ∀ items s r, run T k items s = some r → run T (k + 1) items s = some r) : Le (callT T k) (callT T (k + 1)) := by
  intro f a hp n r hc
  unfold callT at hc ⊢
  cases hT : T f with
  | none => rw [hT] at hc; cases hc
  | some vf =>
    rw [hT] at hc
    simp only at hc ⊢
    cases hb : (vf.nargs == a.length)
    · rw [hb] at hc; cases hc
    · rw [hb] at hc
      simp only [cond_true] at hc ⊢
      cases hr : run T k [.code vf.body] ⟨initEnv 0 a, hp, n⟩ with
      | none => rw [hr] at hc; cases hc
      | some s' => rw [hr] at hc; rw [h _ _ _ hr]; exact hc
theorem run_mono {T : FuncId → Option VFun} : ∀ (k : Nat) (items : List Item) (s r : St), run T k items s = some r → run T (k + 1) items s = some r := by
  intro k
  induction k with
  | zero => intro items s r h; cases h
  | succ k ih =>
    intro items s r h
    have L := callT_mono' ih
    cases items with
    | nil => exact h
    | cons it t =>
      cases it with
      | inBlock id => exact ih _ _ _ h
      | inLoop ks c => exact ih _ _ _ h
      | code c =>
        cases c with
        | skip => exact ih _ _ _ h
        | seq a b => exact ih _ _ _ h
        | block id a => exact ih _ _ _ h
        | loop ks a => exact ih _ _ _ h
        | ret => exact h
        | exit id =>
          simp only [run] at h ⊢
          cases he : exitTo id t with
          | none => rw [he] at h; cases h
          | some t' => rw [he] at h; exact ih _ _ _ h
        | cond x a b =>
          have e : ∀ k, run T (k + 1) (.code (.cond x a b) :: t) s = (match evA s.env x with
            | some (.bool true) => run T k (.code a :: t) s
            | some (.bool false) => run T k (.code b :: t) s
            | _ => none) := fun k => rfl
          rw [e] at h ⊢
          split at h
          · exact ih _ _ _ h
          · exact ih _ _ _ h
          · cases h
        | ops un l =>
          have e : ∀ k, run T (k + 1) (.code (.ops un l) :: t) s = (match (match un with
              | none => runL (callT T k) s.next 0 l { s with next := s.next + 1 }
              | some un => runD (callT T k) s.next un s.env 0 [] l { s with next := s.next + 1 }) with
            | some s' => run T k t s'
            | none => none) := fun k => rfl
          rw [e] at h ⊢
          cases un with
          | none =>
            simp only at h ⊢
            cases hr : runL (callT T k) s.next 0 l { s with next := s.next + 1 } with
            | none => rw [hr] at h; cases h
            | some s' => rw [hr] at h; rw [runL_mono L hr]; exact ih _ _ _ h
          | some un =>
            simp only at h ⊢
            cases hr : runD (callT T k) s.next un s.env 0 [] l { s with next := s.next + 1 } with
            | none => rw [hr] at h; cases h
            | some s' => rw [hr] at h; rw [runD_mono L hr]; exact ih _ _ _ h
theorem callT_mono {T : FuncId → Option VFun} {k j : Nat} (hj : k ≤ j) : Le (callT T k) (callT T j) := by
  induction hj with
  | refl => intro f a h n r hc; exact hc
  | step _ ih => intro f a h n r hc; exact callT_mono' (run_mono _) _ _ _ _ _ (ih _ _ _ _ _ hc)
/-- A closed call that the kernel has run. -/
theorem VC1.closed {T : FuncId → Option VFun} {f : FuncId} {k : Nat} (h : saysTrue (callT T k f [] Heap.empty 0) = true) : VC1 T f [] (.bool true) := by
  cases hc : callT T k f [] Heap.empty 0 with
  | none => rw [hc] at h; cases h
  | some p =>
    obtain ⟨r, h', n'⟩ := p
    rw [hc] at h
    have : r = .bool true := by
      cases r with
      | bool b => cases b with
        | true => rfl
        | false => cases h
      | _ => cases h
    subst this
    exact ⟨.bool true, h', n', ⟨k, fun j hj => callT_mono hj _ _ _ _ _ hc⟩, rfl⟩
end
end Go.AM

/- The examples: run by the kernel. -/
namespace Go.AM.B
open Go.Proofs.Ytebogdeaiecldaa.Tab
set_option maxRecDepth 1000000 in
theorem awake_run : saysTrue (callF (tabOf vfs) 100000 11 [] Heap.empty 0) = true := by kernel_rfl
theorem awake_c : VC1 T 11 [] (.bool true) := VC1.closed (k := 100000) (by rw [← callF_eq]; exact awake_run)
end Go.AM.B

/- Little facts for the laws. -/
namespace Go.AM.B
open Go.Proofs.Ytebogdeaiecldaa.Tab
noncomputable section
set_option linter.unusedVariables false
set_option linter.unusedSimpArgs false

theorem large_k {c : Config} (hok : Config.ok c) : VC1 T 10 [.agg c.enc] (.bool (largeB c)) := large_c c hok.2.2.2
theorem acy_of {s : Solv} (h : cycB s = false) : acy s := by
  classical
  unfold cycB at h
  exact Decidable.byContradiction (of_decide_eq_false h)
theorem find_first {α : Type} {p : α → Bool} {l : List α} {i : Nat} (hi : i < l.length) (h : ∀ j (k : j < l.length), j < i → p l[j] = false) (hp : p l[i] = true) : l.find? p = some l[i] := by
  rw [List.find?_eq_some_iff_getElem]
  exact ⟨hp, i, hi, rfl, fun j hj => by rw [h j (by omega) hj]; rfl⟩
theorem bnd_acy {s : Solv} (h : acy s) (x : Th) : bnd s x = (val s x, 0) := by simp [bnd, h]
end
end Go.AM.B

/- Less in, no more out. -/
namespace Go.AM.B
noncomputable section
set_option linter.unusedVariables false
set_option linter.unusedSimpArgs false

theorem getD_in {l : List Int} {i : Nat} (h : i < l.length) : l.getD i 0 = l[i] := by
  rw [List.getD_eq_getElem?_getD, List.getElem?_eq_getElem h]; rfl
theorem getD_out {l : List Int} {i : Nat} (h : l.length ≤ i) : l.getD i 0 = 0 := by
  rw [List.getD_eq_getElem?_getD, List.getElem?_eq_none h]; rfl
theorem getD_le {l m : List Int} (hl : l.length = m.length) (h : ∀ (i : Nat) (h1 : i < l.length) (h2 : i < m.length), l[i] ≤ m[i]) (i : Nat) : l.getD i 0 ≤ m.getD i 0 := by
  by_cases h1 : i < l.length
  · rw [getD_in h1, getD_in (hl ▸ h1)]; exact h i h1 (hl ▸ h1)
  · rw [getD_out (by omega), getD_out (by omega)]; exact Int.le_refl _
theorem codeV_len (V : Th → Int) : ∀ l : List Instr, (codeV V l).length = l.length + 1 := by
  intro l
  induction l with
  | nil => rfl
  | cons i r ih => simp only [codeV, List.length_cons, ih]
theorem codeV_mono {V W : Th → Int} : ∀ {l : List Instr}, (∀ y ∈ l.flatMap instrLead, V y ≤ W y) → ∀ (i : Nat) (h1 : i < (codeV V l).length) (h2 : i < (codeV W l).length), (codeV V l)[i] ≤ (codeV W l)[i] := by
  intro l
  induction l with
  | nil => intro _ i h1 h2; simp only [codeV] at h1 ⊢; have : i = 0 := by simpa using h1
           subst this; exact Int.le_refl _
  | cons a r ih =>
    intro h i h1 h2
    have ih' := ih (fun y hy => h y (by rw [List.flatMap_cons]; exact List.mem_append.2 (.inr hy)))
    have hg : ∀ j, (codeV V r).getD j 0 ≤ (codeV W r).getD j 0 := getD_le (by rw [codeV_len, codeV_len]) ih'
    cases i with
    | succ j => exact ih' j (by simpa [codeV] using h1) (by simpa [codeV] using h2)
    | zero =>
      simp only [codeV, List.getElem_cons_zero]
      have g0 := hg 0
      have gn := hg a.n.toNat
      split
      · omega
      · split
        · rename_i e
          have := h (0, a.n) (by rw [List.flatMap_cons]; exact List.mem_append.2 (.inl (by simp [instrLead, e])))
          omega
        · split
          · rename_i e
            have := h (2, a.n) (by rw [List.flatMap_cons]; exact List.mem_append.2 (.inl (by simp [instrLead, e])))
            omega
          · split <;> omega
theorem foldl_max_le : ∀ (l : List Int) (n N : Int), n ≤ N → (∀ r ∈ l, r ≤ N) → l.foldl max n ≤ N := by
  intro l
  induction l with
  | nil => intro n N h _; exact h
  | cons a l ih => intro n N h hl; exact ih _ _ (by have := hl a List.mem_cons_self; omega) (fun r hr => hl r (List.mem_cons_of_mem _ hr))
theorem foldl_max_ge : ∀ (l : List Int) (n : Int), n ≤ l.foldl max n ∧ ∀ r ∈ l, r ≤ l.foldl max n := by
  intro l
  induction l with
  | nil => intro n; exact ⟨Int.le_refl _, fun r h => by cases h⟩
  | cons a l ih =>
    intro n
    obtain ⟨h1, h2⟩ := ih (max n a)
    refine ⟨by rw [List.foldl_cons]; omega, fun r hr => ?_⟩
    rw [List.foldl_cons]
    rcases List.mem_cons.1 hr with rfl | hr
    · omega
    · exact h2 r hr
theorem fold_mono {α : Type} (k : Int) {V W : α → Int} : ∀ (l : List α) (n m : Int), n ≤ m → (∀ a ∈ l, V a ≤ W a) →
    (l.map V).foldl (fun n r => if k = 1 then min over (n + r) else max n r) n ≤ (l.map W).foldl (fun n r => if k = 1 then min over (n + r) else max n r) m := by
  intro l
  induction l with
  | nil => intro n m h _; exact h
  | cons a l ih =>
    intro n m h hl
    have h1 := hl a List.mem_cons_self
    refine ih _ _ ?_ (fun b hb => hl b (List.mem_cons_of_mem _ hb))
    by_cases hk : k = 1
    · simp only [if_pos hk]; omega
    · simp only [if_neg hk]; omega
/-- 'd' is 'c' with less in it. -/
structure LessC (d c : Config) : Prop where
  t : d.tables.l = c.tables.l
  e : ∀ x ∈ d.entries.l, x ∈ c.entries.l
  b : ∀ id, blkL d id = blkL c id ∨ blkL d id = []
  g : d.groups.l = c.groups.l
theorem LessC.tab {d c : Config} (h : LessC d c) {id b : Int} (hb : b ∈ tabL d id) : b ∈ tabL c id := by
  unfold tabL at hb ⊢
  rw [h.t] at hb
  cases hf : c.tables.l.find? (fun t => t.id == id) with
  | none => rw [hf] at hb; exact hb
  | some t =>
    rw [hf] at hb
    rcases List.mem_cons.1 hb with rfl | hb
    · exact List.mem_cons_self
    · obtain ⟨x, hx, rfl⟩ := List.mem_map.1 hb
      obtain ⟨h1, h2⟩ := List.mem_filter.1 hx
      exact List.mem_cons_of_mem _ (List.mem_map.2 ⟨x, List.mem_filter.2 ⟨h.e x h1, h2⟩, rfl⟩)
theorem LessC.buckets {d c : Config} (h : LessC d c) (id : Int) : (solve d).buckets id = (solve c).buckets id ∧ (solve d).group id = (solve c).group id := by
  have : (solve d).group id = (solve c).group id := by rw [solve_grp, solve_grp, h.g]
  exact ⟨by unfold Solv.buckets; rw [this], this⟩
theorem LessC.leads {d c : Config} (h : LessC d c) (x : Th) : ∀ y ∈ (solve d).leads x, y ∈ (solve c).leads x := by
  intro y hy
  unfold Solv.leads at hy ⊢
  split at hy
  · rename_i h0
    rw [if_pos h0]
    rw [solve_tab] at hy ⊢
    obtain ⟨b, hb1, rfl⟩ := List.mem_map.1 hy
    exact List.mem_map.2 ⟨b, h.tab hb1, rfl⟩
  · rename_i h0
    rw [if_neg h0]
    split at hy
    · rename_i h1
      rw [if_pos h1]
      rw [solve_blk] at hy ⊢
      rcases h.b x.2 with e | e
      · rw [← e]; exact hy
      · rw [e] at hy; cases hy
    · rename_i h1
      rw [if_neg h1]
      rw [← (h.buckets x.2).1]; exact hy
theorem LessC.acy {d c : Config} (h : LessC d c) (ha : acy (solve c)) : B.acy (solve d) := acy_mono h.leads ha
theorem LessC.val {d c : Config} (h : LessC d c) (ha : B.acy (solve c)) (x : Th) : B.val (solve d) x ≤ B.val (solve c) x := by
  have had := h.acy ha
  have hvd := val_is had
  have hvc := val_is ha
  have bc := val_bnd ha hvc
  induction ha x with
  | intro x _ ih =>
    have ih' : ∀ y ∈ (solve d).leads x, B.val (solve d) y ≤ B.val (solve c) y := fun y hy => ih y (h.leads x y hy)
    rw [hvd x, hvc x]
    suffices comb0 (solve d) (B.val (solve d)) x ≤ comb0 (solve c) (B.val (solve c)) x by unfold comb; omega
    obtain ⟨k, id⟩ := x
    unfold comb0
    dsimp only
    by_cases h0 : k = 0
    · subst h0
      rw [if_pos rfl, if_pos rfl]
      have hm : ((lookL (solve d).tables id).map fun b => B.val (solve d) (1, b)).foldl max 0 ≤ ((lookL (solve c).tables id).map fun b => B.val (solve c) (1, b)).foldl max 0 := by
        obtain ⟨g1, g2⟩ := foldl_max_ge ((lookL (solve c).tables id).map fun b => B.val (solve c) (1, b)) 0
        refine foldl_max_le _ _ _ g1 fun r hr => ?_
        obtain ⟨b, hb, rfl⟩ := List.mem_map.1 hr
        have i1 := ih' (1, b) (by rw [leads_0]; exact List.mem_map.2 ⟨b, hb, rfl⟩)
        rw [solve_tab] at hb
        have i2 := g2 _ (List.mem_map.2 ⟨b, by rw [solve_tab]; exact h.tab hb, rfl⟩)
        exact Int.le_trans i1 i2
      have hh : ((solve d).tables.find? fun t => t.1 == id).isSome = ((solve c).tables.find? fun t => t.1 == id).isSome := by rw [solve_has, solve_has, h.t]
      rw [hh]
      split <;> omega
    · rw [if_neg h0, if_neg h0]
      by_cases h1 : k = 1
      · subst h1
        rw [if_pos rfl, if_pos rfl]
        rw [leads_1] at ih'
        rw [solve_blk] at ih' ⊢
        rw [solve_blk]
        rcases h.b id with e | e
        · rw [e] at ih' ⊢
          exact getD_le (by rw [codeV_len, codeV_len]) (codeV_mono ih') 0
        · rw [e]
          have : (codeV (B.val (solve d)) []).getD 0 0 = 0 := rfl
          rw [this]
          have hc := codeV_bnd (fun y => (bc y).1) (blkL c id)
          have hl := codeV_len (B.val (solve c)) (blkL c id)
          rw [getD_in (by omega)]
          exact (hc _ (List.getElem_mem _)).1
      · rw [if_neg h1, if_neg h1, (h.buckets id).2, (h.buckets id).1]
        rw [leads_g _ _ h0 h1, (h.buckets id).1] at ih'
        exact fold_mono _ ((solve c).buckets id) 0 0 (Int.le_refl _) (fun b hb => ih' (1, b.block) (List.mem_map.2 ⟨b, hb, rfl⟩))
end
end Go.AM.B

/- A block's first instruction, a table's blocks: what they take. -/
namespace Go.AM.B
noncomputable section
set_option linter.unusedVariables false
set_option linter.unusedSimpArgs false

theorem val_blk {c : Config} (ha : acy (solve c)) {id : Int} {b : Block} (hf : (c.blocks.l.find? fun b => b.id == id) = some b) : val (solve c) (1, id) = min over ((codeV (val (solve c)) b.code.l).getD 0 0) := by
  have e := val_is ha (1, id)
  rw [e]
  unfold comb comb0
  rw [if_neg (fun h => by cases h), if_pos rfl, solve_blk]
  unfold blkL
  rw [hf]; rfl
theorem head_13 {c : Config} (ha : acy (solve c)) {id : Int} {b : Block} {i : Instr} {r : List Instr} (hf : (c.blocks.l.find? fun b => b.id == id) = some b) (hc : b.code.l = i :: r) (ho : i.op = 13) :
    val (solve c) (1, id) = min 65537 (1 + val (solve c) (0, i.n)) := by
  rw [val_blk ha hf, hc]
  have e : over = 65537 := rfl
  have : (codeV (val (solve c)) (i :: r)).getD 0 0 = min over (1 + val (solve c) (0, i.n)) := by
    simp only [codeV, ho]; rfl
  rw [this]; omega
theorem head_14 {c : Config} (ha : acy (solve c)) {id : Int} {b : Block} {i : Instr} {r : List Instr} (hf : (c.blocks.l.find? fun b => b.id == id) = some b) (hc : b.code.l = i :: r) (ho : i.op = 14) :
    val (solve c) (1, id) = min 65537 (1 + val (solve c) (2, i.n)) := by
  rw [val_blk ha hf, hc]
  have e : over = 65537 := rfl
  have : (codeV (val (solve c)) (i :: r)).getD 0 0 = min over (1 + val (solve c) (2, i.n)) := by
    simp only [codeV, ho]; rfl
  rw [this]; omega
theorem head_end {c : Config} (ha : acy (solve c)) {id : Int} {b : Block} {i : Instr} {r : List Instr} (hf : (c.blocks.l.find? fun b => b.id == id) = some b) (hc : b.code.l = i :: r) (ho : i.op = 23 ∨ i.op = 22) :
    val (solve c) (1, id) = min 65537 (1 + 0) := by
  rw [val_blk ha hf, hc]
  have e : over = 65537 := rfl
  have : (codeV (val (solve c)) (i :: r)).getD 0 0 = min over (1 + 0) := by
    simp only [codeV, if_pos ho]; rfl
  rw [this]; omega
/-- The rest of a block, as a block of its own in its place. -/
def restD (c : Config) (id : Int) (code : Sl Instr) (q : Bool) : Config := { c with blocks := ⟨⟨id, code⟩ :: c.blocks.l, q, 2⟩ }
theorem restD_blk (c : Config) (id : Int) (code : Sl Instr) (q : Bool) (x : Int) : blkL (restD c id code q) x = if id = x then code.l else blkL c x := by
  unfold blkL restD
  dsimp only
  rw [List.find?_cons]
  by_cases h : id = x
  · subst h; simp
  · have h' : (id == x) = false := by simpa using h
    simp only [h', if_neg h]
theorem restD_tab (c : Config) (id : Int) (code : Sl Instr) (q : Bool) (x : Int) : tabL (restD c id code q) x = tabL c x := rfl
theorem restD_comb (c : Config) (id : Int) (code : Sl Instr) (q : Bool) (V : Th → Int) {x : Th} (hx : x ≠ (1, id)) : comb (solve (restD c id code q)) V x = comb (solve c) V x ∧ (solve (restD c id code q)).leads x = (solve c).leads x := by
  obtain ⟨k, y⟩ := x
  have hg : (solve (restD c id code q)).group y = (solve c).group y := by rw [solve_grp, solve_grp]; rfl
  have hb : (solve (restD c id code q)).buckets y = (solve c).buckets y := by unfold Solv.buckets; rw [hg]
  constructor
  · unfold comb comb0
    dsimp only
    rw [solve_tab, solve_tab, restD_tab, solve_has, solve_has, solve_blk, solve_blk, restD_blk, hb, hg]
    by_cases h1 : k = 1
    · subst h1
      have : id ≠ y := fun e => hx (by rw [e])
      rw [if_neg this]; rfl
    · simp only [if_neg h1]; rfl
  · unfold Solv.leads
    dsimp only
    rw [solve_tab, solve_tab, restD_tab, solve_blk, solve_blk, restD_blk, hb]
    by_cases h1 : k = 1
    · subst h1
      have : id ≠ y := fun e => hx (by rw [e])
      rw [if_neg this]
    · have h1' : (k == 1) = false := by simpa using h1
      simp only [h1', Bool.false_eq_true, if_false]
theorem restD_acy {c : Config} (ha : acy (solve c)) {id : Int} {b : Block} {i : Instr} {code : Sl Instr} (q : Bool) (hf : (c.blocks.l.find? fun b => b.id == id) = some b) (hc : b.code.l = i :: code.l) : acy (solve (restD c id code q)) := by
  refine acy_mono (fun x y hy => ?_) ha
  by_cases h : x = (1, id)
  · subst h
    rw [leads_1, solve_blk, restD_blk, if_pos rfl] at hy
    rw [leads_1, solve_blk]
    unfold blkL
    rw [hf]
    show y ∈ b.code.l.flatMap instrLead
    rw [hc, List.flatMap_cons]
    exact List.mem_append.2 (.inr hy)
  · rw [(restD_comb c id code q (fun _ => 0) h).2] at hy; exact hy
theorem restD_val {c : Config} (ha : acy (solve c)) {id : Int} {b : Block} {i : Instr} {code : Sl Instr} (q : Bool) (hf : (c.blocks.l.find? fun b => b.id == id) = some b) (hc : b.code.l = i :: code.l) :
    ∀ y, Way (solve c) (1, id) y → val (solve (restD c id code q)) y = val (solve c) y := by
  have had := restD_acy ha q hf hc
  intro y
  induction ha y with
  | intro y _ ih =>
    intro hw
    have hne : y ≠ (1, id) := fun e => Way.not_self (ha (1, id)) (e ▸ hw)
    obtain ⟨e1, e2⟩ := restD_comb c id code q (val (solve (restD c id code q))) hne
    rw [val_is had y, val_is ha y, e1]
    exact comb_congr fun z hz => ih z hz (.more hw hz)
theorem head_rest {c : Config} (ha : acy (solve c)) {id : Int} {b : Block} {i : Instr} {code : Sl Instr} (q : Bool) (hf : (c.blocks.l.find? fun b => b.id == id) = some b) (hc : b.code.l = i :: code.l)
    (h12 : i.op ≠ 12) (h13 : i.op ≠ 13) (h14 : i.op ≠ 14) (h23 : i.op ≠ 23) (h22 : i.op ≠ 22) : val (solve c) (1, id) = min 65537 (1 + val (solve (restD c id code q)) (1, id)) := by
  have had := restD_acy ha q hf hc
  have hv := restD_val ha q hf hc
  have e : over = 65537 := rfl
  have e1 : (codeV (val (solve c)) (i :: code.l)).getD 0 0 = min over (1 + (codeV (val (solve c)) code.l).getD 0 0) := by
    have n1 : ¬ (i.op = 23 ∨ i.op = 22) := by omega
    have n2 : ¬ (i.op = 12 ∧ 0 ≤ i.n ∧ i.n < code.l.length) := by omega
    simp only [codeV, if_neg n1, if_neg h13, if_neg h14, if_neg n2]; rfl
  have e2 : val (solve (restD c id code q)) (1, id) = min over ((codeV (val (solve c)) code.l).getD 0 0) := by
    rw [val_is had (1, id)]
    unfold comb comb0
    rw [if_neg (fun h => by cases h), if_pos rfl, solve_blk, restD_blk, if_pos rfl]
    rw [codeV_congr (V := val (solve (restD c id code q))) (W := val (solve c)) fun y hy => hv y (.one (by
      rw [leads_1, solve_blk]
      unfold blkL
      rw [hf]
      show y ∈ b.code.l.flatMap instrLead
      rw [hc, List.flatMap_cons]
      exact List.mem_append.2 (.inr hy)))]
  rw [val_blk ha hf, hc, e1, e2]
  omega
def entF (c : Config) (id : Int) (k : Nat) (n : Int) : Int := (((c.entries.l.take k).filter fun e => e.table == id).map fun e => val (solve c) (1, e.block)).foldl max n
theorem entF_snoc {c : Config} {id : Int} {k : Nat} {n : Int} (hk : k < c.entries.l.length) : entF c id (k + 1) n = if c.entries.l[k].table == id then max (entF c id k n) (val (solve c) (1, c.entries.l[k].block)) else entF c id k n := by
  unfold entF
  rw [List.take_succ_eq_append_getElem hk, List.filter_append, List.map_append, List.foldl_append]
  cases h : c.entries.l[k].table == id <;> simp [List.filter_cons, h]
theorem entF_bnd {c : Config} (ha : acy (solve c)) (id : Int) (k : Nat) (n : Int) (h0 : 0 ≤ n) (h1 : n ≤ 65537) : 0 ≤ entF c id k n ∧ entF c id k n ≤ 65537 := by
  have hb := val_bnd ha (val_is ha)
  refine ⟨Int.le_trans h0 (foldl_max_ge _ _).1, foldl_max_le _ _ _ h1 fun r hr => ?_⟩
  obtain ⟨e, _, rfl⟩ := List.mem_map.1 hr
  exact (hb _).2
theorem tab_all {c : Config} (ha : acy (solve c)) {id : Int} {t : Table} (hf : (c.tables.l.find? fun t => t.id == id) = some t) : val (solve c) (0, id) = min 65537 (1 + entF c id c.entries.l.length (val (solve c) (1, t.miss))) := by
  have e : over = 65537 := rfl
  have hb := val_bnd ha (val_is ha) (1, t.miss)
  rw [val_is ha (0, id)]
  unfold comb comb0 entF
  rw [if_pos rfl, solve_has, hf, if_pos (show (some t).isSome = true from rfl)]
  dsimp only
  rw [solve_tab]
  unfold tabL
  rw [hf, List.take_length]
  have : max 0 (val (solve c) (1, t.miss)) = val (solve c) (1, t.miss) := by omega
  simp only [List.map_cons, List.map_map, List.foldl_cons, this]
  have e2 : (List.map ((fun b => val (solve c) (1, b)) ∘ fun x => x.block) (List.filter (fun e => e.table == id) c.entries.l)) = List.map (fun e => val (solve c) (1, e.block)) (List.filter (fun e => e.table == id) c.entries.l) := rfl
  rw [e2, e]
  omega
end
end Go.AM.B

/- AM: an append of a frozen slice; footprints told too wide. -/
namespace Go.AM
set_option linter.unusedVariables false
set_option linter.unusedSimpArgs false

variable {E : Env} {H : Heap}

def FSub (f g : Foot) : Prop := (∀ k ∈ f.1, k ∈ g.1) ∧ ∀ k ∈ f.2, k ∈ g.2
theorem FSub.refl (f : Foot) : FSub f f := ⟨fun _ h => h, fun _ h => h⟩
inductive Wider : List (Nat × Foot) → List (Nat × Foot) → Prop
  | nil : Wider [] []
  | cons {i f g l m} : FSub f g → Wider l m → Wider ((i, f) :: l) ((i, g) :: m)
theorem Wider.refl : ∀ l, Wider l l
  | [] => .nil
  | (i, f) :: l => .cons (.refl f) (Wider.refl l)
theorem meets_mono {xs xs' ys ys' : List Key} (h1 : ∀ k ∈ xs, k ∈ xs') (h2 : ∀ k ∈ ys, k ∈ ys') (h : meets xs' ys' = false) : meets xs ys = false := by
  unfold meets at h ⊢
  rw [List.any_eq_false] at h ⊢
  intro x hx
  have := h x (h1 x hx)
  simp only [Bool.not_eq_true] at this ⊢
  rw [List.any_eq_false] at this ⊢
  exact fun y hy => this y (h2 y hy)
theorem clash_mono {f f' g g' : Foot} (h1 : FSub f f') (h2 : FSub g g') (h : clash f' g' = false) : clash f g = false := by
  unfold clash at h ⊢
  simp only [Bool.or_eq_false_iff] at h ⊢
  exact ⟨⟨meets_mono h1.2 h2.1 h.1.1, meets_mono h1.2 h2.2 h.1.2⟩, meets_mono h1.1 h2.2 h.2⟩
theorem clashes_mono {un : List (Nat × Nat)} {j : Nat} {f f' : Foot} (hf : FSub f f') {log log' : List (Nat × Foot)} (hl : Wider log log') : clashes un j f' log' = false → clashes un j f log = false := by
  induction hl with
  | nil => exact fun _ => rfl
  | cons h1 h2 ih =>
    intro h
    simp only [clashes, Bool.or_eq_false_iff, Bool.and_eq_false_iff] at h ⊢
    exact ⟨h.1.imp_right fun h => clash_mono h1 hf h, ih h.2⟩
theorem led_mono {o : VO} {log log' : List (Nat × Foot)} (hl : Wider log log') : led o log' = false → led o log = false := by
  unfold led
  cases o.op.own with
  | false => exact fun _ => rfl
  | true =>
    cases o.dst with
    | none => exact fun _ => rfl
    | some d =>
      dsimp only
      induction hl with
      | nil => exact fun _ => rfl
      | @cons i f g l m h1 h2 ih =>
        intro h
        rw [List.any_cons, Bool.or_eq_false_iff] at h ⊢
        refine ⟨?_, ih h.2⟩
        have := h.1
        dsimp only at this ⊢
        rw [List.any_eq_false] at this ⊢
        exact fun k hk => this k (h1.1 k hk)
theorem runD_wide {call : CallF} {nr : Nat} {un : List (Nat × Nat)} {e0 : Env} : ∀ (l : List VO) (i : Nat) (log log' : List (Nat × Foot)) (s s' : St), Wider log log' → runD call nr un e0 i log' l s = some s' → runD call nr un e0 i log l s = some s' := by
  intro l
  induction l with
  | nil => intro i log log' s s' _ h; exact h
  | cons o l ih =>
    intro i log log' s s' hw h
    simp only [runD] at h ⊢
    cases hs : step1 call (nr, i) o s with
    | none => rw [hs] at h; cases h
    | some p =>
      obtain ⟨s1, f⟩ := p
      rw [hs] at h
      dsimp only at h ⊢
      cases hc : (clashes un i f log' || !startOk e0 o || led o log') with
      | true => rw [hc] at h; cases h
      | false =>
        rw [hc, cond_false] at h
        simp only [Bool.or_eq_false_iff] at hc
        have : (clashes un i f log || !startOk e0 o || led o log) = false := by
          simp only [Bool.or_eq_false_iff]
          exact ⟨⟨clashes_mono (.refl f) hw hc.1.1, hc.1.2⟩, led_mono hw hc.2⟩
        rw [this, cond_false]
        exact ih _ _ _ _ _ (.cons (.refl f) hw) h
/-- A step whose footprint is told too wide. -/
theorem WL.stepW {T : FuncId → Option VFun} {nr i : Nat} {dr : DR} {o : VO} {l : List VO} {s s1 : St} {K : St → Prop} {ft F : Foot} (h1 : Ev fun j => step1 (callT T j) (nr, i) o s = some (s1, ft)) (hs : FSub ft F) (hc : okR dr i F o = true)
    (R : WL T nr (logR dr i F) (i + 1) l s1 K) : WL T nr dr i (o :: l) s K := by
  match dr, hc, R with
  | none, _, R => exact WL.step h1 rfl R
  | some (un, e0, log), hc, R =>
    refine WL.step h1 ?_ ?_
    · simp only [okR, Bool.not_eq_true', Bool.or_eq_false_iff] at hc ⊢
      exact ⟨⟨clashes_mono hs (.refl _) hc.1.1, hc.1.2⟩, hc.2⟩
    · obtain ⟨s2, h2, h3⟩ := R
      exact ⟨s2, h2.mono fun j hj => runD_wide _ _ _ _ _ _ (.cons hs (.refl _)) hj, h3⟩
theorem sub_len {cs l : List AV} {off k : Nat} (h : sub cs off k = some l) : l.length = k := by
  unfold sub at h
  cases hb : Nat.ble (off + k) cs.length with
  | false => rw [hb] at h; cases h
  | true =>
    rw [hb] at h
    have := Nat.le_of_ble_eq_true hb
    simp only [cond_true, Option.some.injEq] at h
    rw [← h]; simp; omega
theorem sub_in {cs : List AV} {off k : Nat} (h : off + k ≤ cs.length) : sub cs off k = some ((cs.drop off).take k) := by
  unfold sub
  rw [Nat.ble_eq_true_of_le h]; rfl
theorem flat_drop {α : Type} {enc : α → List AV} {k : Nat} (he : ∀ x, (enc x).length = k) : ∀ (l : List α) (i : Nat), (l.flatMap enc).drop (i * k) = (l.drop i).flatMap enc := by
  intro l
  induction l with
  | nil => intro i; simp
  | cons a l ih =>
    intro i
    cases i with
    | zero => simp
    | succ i =>
      rw [List.flatMap_cons, List.drop_succ_cons, ← ih i, List.drop_append, he, List.drop_of_length_le (by rw [he, Nat.add_mul]; omega), List.nil_append]
      congr 1
      rw [Nat.add_mul]; omega
theorem flat_take {α : Type} {enc : α → List AV} {k : Nat} (he : ∀ x, (enc x).length = k) : ∀ (l : List α) (i : Nat), (l.flatMap enc).take (i * k) = (l.take i).flatMap enc := by
  intro l
  induction l with
  | nil => intro i; simp
  | cons a l ih =>
    intro i
    cases i with
    | zero => simp
    | succ i =>
      rw [List.flatMap_cons, List.take_succ_cons, List.flatMap_cons, ← ih i, List.take_append, he, List.take_of_length_le (by rw [he, Nat.add_mul]; omega)]
      congr 2
      rw [Nat.add_mul]; omega
/-- A piece of a frozen slice. -/
theorem aop_slc_p {E : Env} {H : Heap} {nid : Id} {d : Option Nat} {α : Type} {enc : α → List AV} {k e l h : Nat} {clip : Bool} {L : List α} {x : Operand} {lo hi : Option Operand} (he : ∀ x, (enc x).length = k) (hx : evA E x = some (.pslice (L.flatMap enc) L.length e clip))
    (hb : slcBounds E L.length lo hi none = some (l, h, none)) (hlh : l ≤ h) (hh : h ≤ L.length) :
    ∃ raw c', aop E H nid d (.slc (some k) x lo hi none) = some ⟨.v (.pslice raw (h - l) k c'), none, [], none, [], []⟩ ∧ sub raw 0 ((h - l) * k) = some (((L.drop l).take (h - l)).flatMap enc) := by
  by_cases hn : h = l
  · subst hn
    refine ⟨[], clipOf none clip h L.length, ?_, ?_⟩
    · simp only [aop, hx, slcOf, hb, piece, beq_self_eq_true, cond_true, Nat.sub_self]
    · rw [Nat.sub_self, Nat.zero_mul, List.take_zero]; rfl
  · have hn' : (h == l) = false := by simpa using hn
    refine ⟨(L.flatMap enc).drop (l * k), clipOf none clip h L.length, ?_, ?_⟩
    · simp only [aop, hx, slcOf, hb, piece, hn', cond_false]
    · rw [flat_drop he, sub_in, List.drop_zero, flat_take he]
      rw [flat_len he, List.length_drop, Nat.zero_add]
      exact Nat.mul_le_mul_right _ (by omega)
theorem WL.slcP {T : FuncId → Option VFun} {nr i dd : Nat} {dr : DR} {g : Option (Nat × Bool)} {md : Mode} {ops : List VO} {E : Env} {H : Heap} {N : Nat} {K : St → Prop} {α : Type} {enc : α → List AV} {k e l h : Nat} {clip : Bool} {L : List α} {x : Operand} {lo hi : Option Operand}
    (he : ∀ x, (enc x).length = k) (hg : wantedA E g = some true) (hx : evA E x = some (.pslice (L.flatMap enc) L.length e clip)) (hb : slcBounds E L.length lo hi none = some (l, h, none)) (hlh : l ≤ h) (hh : h ≤ L.length)
    (hc : okR dr i ([], []) ⟨some dd, g, .slc (some k) x lo hi none, md⟩ = true)
    (R : ∀ raw c', sub raw 0 ((h - l) * k) = some (((L.drop l).take (h - l)).flatMap enc) → WL T nr (logR dr i ([], [])) (i + 1) ops ⟨E.put dd (.v (.pslice raw (h - l) k c')), H, N⟩ K) :
    WL T nr dr i (⟨some dd, g, .slc (some k) x lo hi none, md⟩ :: ops) ⟨E, H, N⟩ K := by
  obtain ⟨raw, c', h1, h2⟩ := aop_slc_p (H := H) (nid := (nr, i)) (d := some dd) he hx hb hlh hh
  exact WL.val hg h1 hc (R raw c' h2)
/-- The rest of a frozen slice. -/
theorem WL.slcLo {T : FuncId → Option VFun} {nr i dd : Nat} {dr : DR} {g : Option (Nat × Bool)} {md : Mode} {ops : List VO} {E : Env} {H : Heap} {N : Nat} {K : St → Prop} {α : Type} {enc : α → List AV} {k e l : Nat} {clip : Bool} {L : List α} {x : Operand} {lo : Option Operand}
    (he : ∀ x, (enc x).length = k) (hg : wantedA E g = some true) (hx : evA E x = some (.pslice (L.flatMap enc) L.length e clip)) (hb : slcBounds E L.length lo none none = some (l, L.length, none)) (hlh : l ≤ L.length)
    (hc : okR dr i ([], []) ⟨some dd, g, .slc (some k) x lo none none, md⟩ = true)
    (R : ∀ c', WL T nr (logR dr i ([], [])) (i + 1) ops ⟨E.put dd (.v (.pslice ((L.drop l).flatMap enc) (L.drop l).length k c')), H, N⟩ K) :
    WL T nr dr i (⟨some dd, g, .slc (some k) x lo none none, md⟩ :: ops) ⟨E, H, N⟩ K := by
  have : ∃ c', aop E H (nr, i) (some dd) (.slc (some k) x lo none none) = some ⟨.v (.pslice ((L.drop l).flatMap enc) (L.drop l).length k c'), none, [], none, [], []⟩ := by
    refine ⟨clipOf none clip L.length L.length, ?_⟩
    by_cases hn : L.length = l
    · have hn' : (L.length == l) = true := by simpa using hn
      have hd : L.drop l = [] := List.drop_eq_nil_of_le (by omega)
      simp only [aop, hx, slcOf, hb, piece, hn', cond_true, hd]; rfl
    · have hn' : (L.length == l) = false := by simpa using hn
      simp only [aop, hx, slcOf, hb, piece, hn', cond_false, List.length_drop, flat_drop he]
  obtain ⟨c', h1⟩ := this
  exact WL.val hg h1 hc (R c')
theorem slcB_hi {E : Env} {x : Operand} {len n : Nat} {k : IntKind} {z : Int} (hx : evA E x = some (.int k z)) (hz : z = n) (hn : n ≤ len) : slcBounds E len none (some x) none = some (0, n, none) := by
  subst hz
  have : (decide ((0 : Int) ≤ (n : Int)) && decide ((n : Int) ≤ (len : Int))) = true := by simp; omega
  simp only [slcBounds, bnd, hx, Option.getD_none, Option.getD_some, this, cond_true, Option.isSome_none, Bool.false_and, cond_false, Int.toNat_natCast]
theorem slcB_lo {E : Env} {x : Operand} {len n : Nat} {k : IntKind} {z : Int} (hx : evA E x = some (.int k z)) (hz : z = n) (hn : n ≤ len) : slcBounds E len (some x) none none = some (n, len, none) := by
  subst hz
  have : (decide ((0 : Int) ≤ (n : Int)) && decide ((n : Int) ≤ (len : Int))) = true := by simp; omega
  simp only [slcBounds, bnd, hx, Option.getD_none, Option.getD_some, this, cond_true, Option.isSome_none, Bool.false_and, cond_false, Int.toNat_natCast]
theorem aop_rem {E : Env} {H : Heap} {nid : Id} {d : Option Nat} {x y : Operand} {k : IntKind} {a b : Int} (hx : evA E x = some (.int k a)) (hy : evA E y = some (.int k b)) (hb : b ≠ 0) :
    aop E H nid d (.bin .rem x y) = some ⟨.v (.int k (a.tmod b)), none, [], none, [], []⟩ := by
  have h1 : (b == 0) = false := by simpa using hb
  have h2 : (k == k) = true := by cases k <;> rfl
  simp only [aop, hx, hy, binop, h2, cond_true, binInt, h1, cond_false]
theorem wrapu {n : Int} (h1 : 0 ≤ n) (h2 : n < 18446744073709551616) : IntKind.wrap .u64 n = n := by
  simp only [IntKind.wrap, IntKind.bits, IntKind.signed, Bool.false_and, Bool.false_eq_true, if_false]
  omega
/-- A place in a list, out of any number. -/
theorem idx_rem (i : Int) {len : Nat} (h0 : 0 < len) (hl : len < 140737488355328) : ∃ k : Nat, k < len ∧ IntKind.wrap .i64 ((IntKind.wrap .u64 i).tmod (IntKind.wrap .u64 (len : Int))) = (k : Int) ∧ IntKind.wrap .u64 (len : Int) ≠ 0 := by
  have e : IntKind.wrap .u64 (len : Int) = len := wrapu (by omega) (by omega)
  have hn : 0 ≤ IntKind.wrap .u64 i := by
    simp only [IntKind.wrap, IntKind.bits, IntKind.signed, Bool.false_and, Bool.false_eq_true, if_false]
    omega
  rw [e]
  have h1 := Int.tmod_nonneg (len : Int) hn
  have h2 := Int.tmod_lt_of_pos (IntKind.wrap .u64 i) (b := (len : Int)) (by omega)
  generalize (IntKind.wrap .u64 i).tmod (len : Int) = z at h1 h2
  exact ⟨z.toNat, by omega, by rw [wrap64 (by omega) (by omega)]; omega, by omega⟩
/-- What a cell freezes to: a nil slice as an empty one. -/
def fz : AV → AV
  | .nils => .pslice [] 0 0 true
  | a => a
theorem mapO_fz (k : Nat) (h : Heap) : ∀ l : List AV, (∀ a ∈ l, AM.pur k h a = some (fz a)) → mapO (AM.pur k h) l = some (l.map fz) := by
  intro l
  induction l with
  | nil => intro _; rfl
  | cons a l ih =>
    intro hl
    simp only [mapO, hl a (by simp), ih fun b hb => hl b (by simp [hb]), List.map_cons]
theorem pur_sliceF {k : Nat} {h : Heap} {o : Id} {len esz : Nat} {clip : Bool} {cs : List AV} (hg : h.get o = some (.cells cs)) (hl : cs.length = len * esz) (hp : ∀ a ∈ cs, AM.pur k h a = some (fz a)) :
    AM.pur (k + 1) h (.slice o 0 len esz clip) = some (.pslice (cs.map fz) len esz clip) := by
  simp only [AM.pur, hg, sub_all cs _ hl, mapO_fz k h cs hp]
theorem map_flat {α : Type} {enc enc' : α → List AV} (h : ∀ x, (enc x).map fz = enc' x) (l : List α) : (l.flatMap enc).map fz = l.flatMap enc' := by
  induction l with
  | nil => rfl
  | cons a l ih => rw [List.flatMap_cons, List.map_append, h, ih, List.flatMap_cons]
/-- One element written over. -/
theorem upd_flat {α : Type} {enc : α → List AV} {k : Nat} (he : ∀ x, (enc x).length = k) (l : List α) {i : Nat} (hi : i < l.length) {xs : List AV} (hx : xs.length = k) : upd (l.flatMap enc) (i * k) xs = some ((l.take i).flatMap enc ++ xs ++ (l.drop (i + 1)).flatMap enc) := by
  have hle : i * k + xs.length ≤ (l.flatMap enc).length := by
    rw [flat_len he, hx, ← Nat.succ_mul]
    exact Nat.mul_le_mul_right _ hi
  unfold upd
  rw [Nat.ble_eq_true_of_le hle, cond_true, flat_take he, hx, ← Nat.succ_mul, flat_drop he]
theorem set_split {α : Type} (l : List α) {i : Nat} (hi : i < l.length) (a : α) : l.set i a = l.take i ++ [a] ++ l.drop (i + 1) := by
  rw [List.set_eq_take_append_cons_drop, if_pos hi]; simp
/-- Append of a frozen slice to the function's own. -/
theorem WL.appP {T : FuncId → Option VFun} {nr i dd : Nat} {dr : DR} {g : Option (Nat × Bool)} {esz bytes len n t u e : Nat} {md : Mode} {l : List VO} {N : Nat} {K : St → Prop} {cs raw new : List AV} {o : Id} {clip kk : Bool} (os : List Id)
    (hg : wantedA E g = some true) (hs : evA E (.tmp t) = some (.slice o 0 len esz clip)) (hb : evA E (.tmp u) = some (.pslice raw n e kk)) (hgo : H.get o = some (.cells cs)) (hcl : cs.length = len * esz) (hsb : sub raw 0 (n * esz) = some new) (ho : ones new = true)
    (hz : (len + n) * bytes ≤ 140737488355328) (hos : o ∈ os)
    (hc : okR dr i (os.map .obj, .obj (nr, i) :: os.map .obj) ⟨some dd, g, .append esz bytes (.tmp t) (.tmp u), md⟩ = true)
    (R : ∀ o' clip' H', H'.get o' = some (.cells (cs ++ new)) → o' ∈ (nr, i) :: os → (∀ j, j ∉ os → j ≠ (nr, i) → H'.get j = H.get j) →
      WL T nr (logR dr i (os.map .obj, .obj (nr, i) :: os.map .obj)) (i + 1) l ⟨E.put dd (.v (.slice o' 0 (len + n) esz clip')), H', N⟩ K) :
    WL T nr dr i (⟨some dd, g, .append esz bytes (.tmp t) (.tmp u), md⟩ :: l) ⟨E, H, N⟩ K := by
  have hx : elems esz H (.pslice raw n e kk) = some (new, n, []) := by simp only [elems, hsb]
  have hl : new.length = n * esz := sub_len hsb
  have mo : (Key.obj o) ∈ os.map Key.obj := List.mem_map.2 ⟨o, hos, rfl⟩
  by_cases hn : n = 0
  · subst hn
    have hnew : new = [] := List.eq_nil_of_length_eq_zero (by simpa using hl)
    subst hnew
    have e : aop E H (nr, i) (some dd) (.append esz bytes (.tmp t) (.tmp u)) = some ⟨.v (.slice o 0 len esz clip), none, [], none, [], []⟩ := by
      simp only [aop, hs, hb, hx, appendTo, beq_self_eq_true, cond_true, AV.isSl]
    refine WL.stepW (Ev.of fun j => step1_aop hg e) ⟨fun k h => (by cases h), fun k h => (by cases h)⟩ hc ?_
    exact R o clip H (by rw [List.append_nil]; exact hgo) (List.mem_cons_of_mem _ hos) (fun _ _ _ => rfl)
  have hn0 : (n == 0) = false := by simp; exact hn
  have hcond : (!(ones new) || !(new.length == n * esz)) = false := by rw [ho, hl]; simp
  have hb2 : Nat.ble ((len + n) * bytes) 140737488355328 = true := Nat.ble_eq_true_of_le hz
  cases clip with
  | false =>
    have hcs : ((0 : Nat) == 0 && cs.length == len * esz) = true := by rw [hcl]; simp
    have e : aop E H (nr, i) (some dd) (.append esz bytes (.tmp t) (.tmp u)) = some ⟨.v (.slice (nr, i) 0 (len + n) esz false), none, [((nr, i), .cells (cs ++ new))], some o, [.obj o], [.obj (nr, i), .obj o]⟩ := by
      simp only [aop, hs, hb, hx, appendTo, hn0, cond_false, hcond, beq_self_eq_true, Bool.true_and, hb2, cond_true, hgo, hcs]
      rw [hcl]; simp
    refine WL.stepW (Ev.of fun j => step1_aop hg e) ⟨fun k h => ?_, fun k h => ?_⟩ hc (R (nr, i) false ((H.del o).put (nr, i) (.cells (cs ++ new))) (by rw [Heap.get_put, if_pos rfl]) (List.mem_cons_self) ?_)
    · simp only [List.mem_singleton] at h; rw [h]; exact mo
    · simp only [List.mem_cons, List.not_mem_nil, or_false] at h
      rcases h with rfl | rfl
      · exact List.mem_cons_self
      · exact List.mem_cons_of_mem _ mo
    · intro j hjo hj
      rw [Heap.get_put, if_neg hj, Heap.get_del, if_neg (fun h => hjo (by rw [h]; exact hos))]
  | true =>
    have e : aop E H (nr, i) (some dd) (.append esz bytes (.tmp t) (.tmp u)) = some ⟨.v (.slice (nr, i) 0 (len + n) esz false), none, [((nr, i), .cells (cs ++ new))], none, [.obj o], [.obj (nr, i)]⟩ := by
      simp only [aop, hs, hb, hx, appendTo, hn0, cond_false, hcond, beq_self_eq_true, Bool.true_and, hb2, cond_true, hgo, sub_all cs (len * esz) hcl]
    refine WL.stepW (Ev.of fun j => step1_aop hg e) ⟨fun k h => ?_, fun k h => ?_⟩ hc (R (nr, i) false (H.put (nr, i) (.cells (cs ++ new))) (by rw [Heap.get_put, if_pos rfl]) (List.mem_cons_self) ?_)
    · simp only [List.mem_singleton] at h; rw [h]; exact mo
    · simp only [List.mem_singleton] at h
      rw [h]; exact List.mem_cons_self
    · intro j hjo hj
      rw [Heap.get_put, if_neg hj]
theorem ones_flat {α : Type} {enc : α → List AV} (h : ∀ x, ones (enc x) = true) : ∀ l : List α, ones (l.flatMap enc) = true := by
  have app : ∀ a b : List AV, ones a = true → ones b = true → ones (a ++ b) = true := by
    intro a
    induction a with
    | nil => intro b _ h; exact h
    | cons x a ih =>
      intro b h1 h2
      simp only [ones, Bool.and_eq_true, List.cons_append] at h1 ⊢
      exact ⟨h1.1, ih b h1.2 h2⟩
  intro l
  induction l with
  | nil => rfl
  | cons x l ih => rw [List.flatMap_cons]; exact app _ _ (h x) ih
/-- A slice of one's own, all of whose cells are frozen, as it freezes. -/
theorem pur_slice {k : Nat} {h : Heap} {o : Id} {len esz : Nat} {clip : Bool} {cs : List AV} (hg : h.get o = some (.cells cs)) (hl : cs.length = len * esz) (hp : ∀ a ∈ cs, AM.pur k h a = some a) :
    AM.pur (k + 1) h (.slice o 0 len esz clip) = some (.pslice cs len esz clip) := by
  simp only [AM.pur, hg, sub_all cs _ hl, pur_scal_all k h cs hp]
theorem pur_agg {k : Nat} {h : Heap} {cs ds : List AV} (hp : mapO (AM.pur k h) cs = some ds) : AM.pur (k + 1) h (.agg cs) = some (.agg ds) := by
  simp only [AM.pur, hp]
theorem mapO_cons {f : AV → Option AV} {a b : AV} {l m : List AV} (h1 : f a = some b) (h2 : mapO f l = some m) : mapO f (a :: l) = some (b :: m) := by
  simp only [mapO, h1, h2]
/-- A call whose result is a slice of its own, by what that holds. -/
theorem WL.vfresh {nr i d len esz : Nat} {clip : Bool} {dr : DR} {g : Option (Nat × Bool)} {T : FuncId → Option VFun} {f : FuncId} {args : List Operand} {l : List VO} {E : Env} {H : Heap} {N : Nat} {K : St → Prop} {az az' cs : List AV} (hg : wantedA E g = some true) (ha : evAs E args = some az)
    (hp : mapO (pur purLimit H) az = some az') (C : CallsTo T f az' Heap.empty 0 fun r h' _ => ∃ o ds, r = .slice o 0 len esz clip ∧ h'.get o = some (.cells ds) ∧ mapO (pur purLimit (h'.del o)) ds = some cs) (hs : scals cs = true)
    (hc : okR dr i (flatK (purK purLimit H) az, [.obj (nr, i)]) ⟨some d, g, .call f args, .vfresh⟩ = true)
    (R : WL T nr (logR dr i (flatK (purK purLimit H) az, [.obj (nr, i)])) (i + 1) l ⟨E.put d (.v (.slice (nr, i) 0 len esz clip)), H.put (nr, i) (.cells cs), N⟩ K) : WL T nr dr i (⟨some d, g, .call f args, .vfresh⟩ :: l) ⟨E, H, N⟩ K := by
  obtain ⟨r, H', N', h1, o, ds, rfl, h2, h3⟩ := C
  refine WL.step (ft := (flatK (purK purLimit H) az, [.obj (nr, i)])) (h1.mono fun j hj => ?_) hc R
  unfold step1
  simp only [hg, ha, callM, hp, hj, h2, h3, hs, putDst, Env.putO, cond_true]
end Go.AM

/- AM: slices of slices: what they freeze to hangs on a part of the heap alone. -/
namespace Go.AM
set_option linter.unusedVariables false
set_option linter.unusedSimpArgs false

def Subh (h0 h : Heap) : Prop := ∀ i o, h0.get i = some o → h.get i = some o
theorem Subh.refl (h : Heap) : Subh h h := fun _ _ h => h
theorem Subh.trans {a b c : Heap} (h : Subh a b) (k : Subh b c) : Subh a c := fun i o e => k i o (h i o e)
theorem Subh.put {h0 h : Heap} (H : Subh h0 h) {i : Id} {o : AObj} (hn : h0.get i = none) : Subh h0 (h.put i o) := by
  intro j p hj
  rw [Heap.get_put]
  by_cases e : j = i
  · subst e; rw [hn] at hj; cases hj
  · rw [if_neg e]; exact H j p hj
theorem Subh.put2 {h0 h : Heap} (H : Subh h0 h) (i : Id) (o : AObj) : Subh (h0.put i o) (h.put i o) := by
  intro j p hj
  rw [Heap.get_put] at hj ⊢
  by_cases e : j = i
  · rw [if_pos e] at hj ⊢; exact hj
  · rw [if_neg e] at hj ⊢; exact H j p hj
theorem mapO_imp {f g : AV → Option AV} (h : ∀ a b, f a = some b → g a = some b) : ∀ (l m : List AV), mapO f l = some m → mapO g l = some m := by
  intro l
  induction l with
  | nil => intro m h; exact h
  | cons a l ih =>
    intro m hm
    simp only [mapO] at hm ⊢
    cases h1 : f a with
    | none => rw [h1] at hm; cases hm
    | some b =>
      cases h2 : mapO f l with
      | none => rw [h1, h2] at hm; cases hm
      | some r =>
        rw [h1, h2] at hm
        rw [h a b h1, ih r h2]; exact hm
theorem pur_sub {h0 h : Heap} (H : Subh h0 h) : ∀ (k : Nat) (a b : AV), AM.pur k h0 a = some b → AM.pur k h a = some b := by
  intro k
  induction k with
  | zero => intro a b e; cases e
  | succ k ih =>
    intro a b e
    have im := mapO_imp ih
    cases a with
    | ptr o off =>
      simp only [AM.pur] at e ⊢
      cases hg : h0.get o with
      | none => rw [hg] at e; cases e
      | some ob =>
        rw [hg] at e; rw [H _ _ hg]
        cases ob with
        | cells cs =>
          dsimp only at e ⊢
          cases hm : mapO (AM.pur k h0) cs with
          | none => rw [hm] at e; cases e
          | some l => rw [hm] at e; rw [im _ _ hm]; exact e
        | map _ _ _ _ => exact e
    | slice o co len esz clip =>
      simp only [AM.pur] at e ⊢
      cases hg : h0.get o with
      | none => rw [hg] at e; cases e
      | some ob =>
        rw [hg] at e; rw [H _ _ hg]
        cases ob with
        | cells cs =>
          dsimp only at e ⊢
          cases hs : sub cs co (len * esz) with
          | none => rw [hs] at e; cases e
          | some l0 =>
            rw [hs] at e
            dsimp only at e ⊢
            cases hm : mapO (AM.pur k h0) l0 with
            | none => rw [hm] at e; cases e
            | some l => rw [hm] at e; rw [im _ _ hm]; exact e
        | map _ _ _ _ => exact e
    | map o =>
      simp only [AM.pur] at e ⊢
      cases hg : h0.get o with
      | none => rw [hg] at e; cases e
      | some ob =>
        rw [hg] at e; rw [H _ _ hg]
        cases ob with
        | cells cs => exact e
        | map ks vs _ _ =>
          dsimp only at e ⊢
          cases h1 : mapO (AM.pur k h0) ks with
          | none => rw [h1] at e; cases e
          | some l1 =>
            cases h2 : mapO (AM.pur k h0) vs with
            | none => rw [h1, h2] at e; cases e
            | some l2 => rw [h1, h2] at e; rw [im _ _ h1, im _ _ h2]; exact e
    | agg cs =>
      simp only [AM.pur] at e ⊢
      cases hm : mapO (AM.pur k h0) cs with
      | none => rw [hm] at e; cases e
      | some l => rw [hm] at e; rw [im _ _ hm]; exact e
    | tuple cs =>
      simp only [AM.pur] at e ⊢
      cases hm : mapO (AM.pur k h0) cs with
      | none => rw [hm] at e; cases e
      | some l => rw [hm] at e; rw [im _ _ hm]; exact e
    | func fn x y =>
      simp only [AM.pur] at e ⊢
      cases h1 : mapO (AM.pur k h0) x with
      | none => rw [h1] at e; cases e
      | some l1 =>
        cases h2 : mapO (AM.pur k h0) y with
        | none => rw [h1, h2] at e; cases e
        | some l2 => rw [h1, h2] at e; rw [im _ _ h1, im _ _ h2]; exact e
    | _ => exact e
theorem mapO_sub {h0 h : Heap} (H : Subh h0 h) {k : Nat} {l m : List AV} (e : mapO (AM.pur k h0) l = some m) : mapO (AM.pur k h) l = some m := mapO_imp (pur_sub H k) l m e
theorem mapO_app {f : AV → Option AV} : ∀ {l m r s : List AV}, mapO f l = some r → mapO f m = some s → mapO f (l ++ m) = some (r ++ s) := by
  intro l
  induction l with
  | nil => intro m r s h1 h2; simp only [mapO, Option.some.injEq] at h1; subst h1; exact h2
  | cons a l ih =>
    intro m r s h1 h2
    simp only [mapO, List.cons_append] at h1 ⊢
    cases ha : f a with
    | none => rw [ha] at h1; cases h1
    | some b =>
      cases hl : mapO f l with
      | none => rw [ha, hl] at h1; cases h1
      | some t =>
        rw [ha, hl] at h1
        simp only [Option.some.injEq] at h1
        rw [ih hl h2, ← h1]; rfl
/-- A slice of one's own, deep. -/
theorem pur_deep {k : Nat} {h : Heap} {o : Id} {len esz : Nat} {clip : Bool} {cs ds : List AV} (hg : h.get o = some (.cells cs)) (hl : cs.length = len * esz) (hp : mapO (AM.pur k h) cs = some ds) :
    AM.pur (k + 1) h (.slice o 0 len esz clip) = some (.pslice ds len esz clip) := by
  simp only [AM.pur, hg, sub_all cs _ hl, hp]
theorem OwnS.deep {k : Nat} {h : Heap} {esz len : Nat} {cs ds : List AV} {v : AV} (hv : OwnS h esz cs len v) (hp : mapO (AM.pur k h) cs = some ds) : ∃ q e, AM.pur (k + 1) h v = some (.pslice ds len e q) := by
  rcases hv with ⟨rfl, rfl, rfl⟩ | ⟨o, clip, rfl, h1, h2⟩
  · simp only [mapO, Option.some.injEq] at hp; subst hp; exact ⟨_, _, rfl⟩
  · exact ⟨_, _, pur_deep h1 h2 hp⟩
/-- One element is put at the end of a slice of one's own; what else lies in the heap stays. -/
theorem WL.pushG {E : Env} {H : Heap} {T : FuncId → Option VFun} {nr i dd : Nat} {dr : DR} {g g' : Option (Nat × Bool)} {esz bytes len t u : Nat} {md md' : Mode} {l : List VO} {N : Nat} {K : St → Prop} {v b : AV} {cs new z : List AV} {x : Operand}
    (hg : wantedA E g = some true) (hx : evA E x = some b) (hb : cellsOf b = new) (hbl : new.length = esz) (hz : z.length = esz) (hg' : wantedA (E.put u (.v (.slice (nr, i) 0 1 esz true))) g' = some true) (htu : t ≠ u)
    (hs : E.get t = some (.v v)) (hv : OwnS H esz cs len v) (hno : ∀ j, j ∈ v.objs → j ≠ (nr, i)) (ho : ones new = true) (hsz : (len + 1) * bytes ≤ 140737488355328)
    (hc : okR dr i ([], [.obj (nr, i)]) ⟨some u, g, .bslice z 1 esz [(0, x)], md⟩ = true)
    (hc' : ∀ rd wr, (∀ k ∈ wr, ∃ o, k = .obj o ∧ (o = (nr, i + 1) ∨ o ∈ v.objs)) → okR (logR dr i ([], [.obj (nr, i)])) (i + 1) (rd, wr) ⟨some dd, g', .append esz bytes (.tmp t) (.tmp u), md'⟩ = true)
    (R : ∀ rd wr H', OwnS H' esz (cs ++ new) (len + 1) (.slice (nr, i + 1) 0 (len + 1) esz false) → (∀ j, j ∉ v.objs → j ≠ (nr, i) → j ≠ (nr, i + 1) → H'.get j = H.get j) → (∀ m, nr < m → Fresh H m → Fresh H' m) →
      WL T nr (logR (logR dr i ([], [.obj (nr, i)])) (i + 1) (rd, wr)) (i + 2) l ⟨(E.put u (.v (.slice (nr, i) 0 1 esz true))).put dd (.v (.slice (nr, i + 1) 0 (len + 1) esz false)), H', N⟩ K) :
    WL T nr dr i (⟨some u, g, .bslice z 1 esz [(0, x)], md⟩ :: ⟨some dd, g', .append esz bytes (.tmp t) (.tmp u), md'⟩ :: l) ⟨E, H, N⟩ K := by
  have e1 : aop E H (nr, i) (some u) (.bslice z 1 esz [(0, x)]) = some ⟨.v (.slice (nr, i) 0 1 esz true), none, [((nr, i), .cells new)], none, [], [.obj (nr, i)]⟩ := by
    have h1 : (new.length == esz) = true := by rw [hbl]; simp
    have h2 : Nat.ble (0 + new.length) (rep 1 z).length = true := Nat.ble_eq_true_of_le (by simp [rep, hbl, hz])
    have h3 : (rep 1 z).drop (0 + new.length) = [] := List.drop_eq_nil_of_le (by simp [rep, hbl, hz])
    simp only [aop, evElems, hx, hb, h1, cond_true, fill, Nat.zero_mul, upd, h2, h3, List.take_zero, List.nil_append, List.append_nil]
  refine WL.heap hg e1 hc ?_
  refine WL.append (b := .slice (nr, i) 0 1 esz true) (new := new) (n := 1) hg' (v := v) ?_ (hv.frame fun j hj => by rw [Heap.get_put, if_neg (hno j hj)]) (evA_nj (by rw [show (E.putO (some u) (SV.v (AV.slice (nr, i) 0 1 esz true))) = E.put u (SV.v (AV.slice (nr, i) 0 1 esz true)) from rfl, Env.get_put, if_pos rfl]) (by intro h; cases h)) (elems_put (by omega)) (by decide) ho (by omega) hsz hc' ?_
  · show (E.put u _).get t = _
    rw [Env.get_put, if_neg htu]; exact hs
  · intro rd wr H' h1 h2 h3
    refine R rd wr H' h1 (fun j hj n1 n2 => ?_) (fun m hm hf => h3 m hm (hf.put hm (Nat.le_refl _)))
    rw [h2 j hj n2, Heap.get_put, if_neg n1]
end Go.AM
