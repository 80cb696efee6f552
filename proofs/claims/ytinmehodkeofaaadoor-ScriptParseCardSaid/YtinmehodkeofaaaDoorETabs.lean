/- What the script package computes, as plain functions. The package-level variables that the callees read, as facts on a world; they stay where what lay below stands. -/
import Derived.Test.YtinmehodkeofaaaDoorQx0
import Derived.WalkKit
import Derived.WalkSmall
import Derived.Lib.LaidTab
import Derived.Lib.ItoaNum
namespace Go.Proofs.YtinmehodkeofaaaDoor.Q

/-- The table of operations: the names and the numbers of arguments. -/
def opsTab : List (List UInt8 × Nat) := [([], 0), ([98, 111, 111, 116], 1), ([115, 116, 114, 97, 112], 3), ([109, 97, 105, 108], 3), ([103, 108, 105, 116, 99, 104], 3), ([115, 116, 97, 103, 101], 2), ([99, 111, 110, 102, 105, 114, 109], 1), ([114, 111, 116, 97, 116, 101], 2), ([115, 101, 97, 108], 2), ([119, 105, 100, 101, 110], 1), ([110, 97, 114, 114, 111, 119], 1), ([111, 112, 101, 110], 1), ([113, 117, 111, 116, 101], 3), ([115, 110, 97, 112], 1), ([114, 101, 112, 108, 97, 121], 2), ([103, 111, 115, 115, 105, 112], 2), ([116, 101, 108, 108], 2), ([111, 117, 116], 2), ([109, 101, 115, 115, 97, 103, 101], 1), ([99, 97, 108, 108], 3), ([106, 117, 100, 103, 101], 1)]
def opsCells : List Value := opsTab.flatMap fun x => [.string ⟨x.1.toArray⟩, .int .i64 (x.2 : Int)]
def nameAt (i : Nat) : List UInt8 := (opsTab.getD i ([], 0)).1
def arityAt (i : Nat) : Int := ((opsTab.getD i ([], 0)).2 : Int)
def arity (op : Int) : Int := if op ≤ 0 ∨ 21 ≤ op then -1 else arityAt op.toNat
def script_Arity.f (a0 : Int) : Option Int := some (arity a0)

end Go.Proofs.YtinmehodkeofaaaDoor.Q
namespace Go.Proofs.YtinmehodkeofaaaDoor.Q
open Go.RowKit

def Tabs (w : World) : Prop :=
  Lib.TabIs Tryd.prog w "internal/strconv.uint64pow10" .u64 Lib.pow10Tab ∧ (∃ tp p, w.var? Tryd.prog "strconv.ErrSyntax" = some #[.iface tp p]) ∧ (∃ tp p, w.var? Tryd.prog "strconv.ErrRange" = some #[.iface tp p]) ∧
    (∃ m, w.cell? ⟨1, 0, none⟩ = some (.int .i64 m)) ∧ w.var? Tryd.prog "bootchain/script.operations" = some opsCells.toArray

theorem gOps : Tryd.prog.globalNamed "bootchain/script.operations" = some 0 := by kernel_rfl
theorem gSyntax : Tryd.prog.globalNamed "strconv.ErrSyntax" = some 5 := by kernel_rfl
theorem gRange : Tryd.prog.globalNamed "strconv.ErrRange" = some 6 := by kernel_rfl
theorem gPow : Tryd.prog.globalNamed "internal/strconv.uint64pow10" = some 2 := by kernel_rfl

theorem var_lt {P : Program} {w : World} {n : String} {g : Nat} {cs : Array Value} (hg : P.globalNamed n = some g) (hv : w.var? P n = some cs) : g < w.heap.size := by
  unfold World.var? at hv
  simp only [hg, Option.bind_some] at hv
  by_cases h : g < w.heap.size
  · exact h
  · rw [Array.getElem?_eq_none (by omega)] at hv
    simp at hv

theorem var_step {P : Program} {w W : World} {n : String} {g : Nat} {cs : Array Value} (hg : P.globalNamed n = some g) (hb : Below w.heap.size w W) (hv : w.var? P n = some cs) : W.var? P n = some cs :=
  var?_below hb hg (var_lt hg hv) hv

theorem tabs_step {w W : World} (h : Tabs w) (hb : Below w.heap.size w W) : Tabs W := by
  obtain ⟨h1, ⟨t2, p2, h2⟩, ⟨t3, p3, h3⟩, ⟨m, h4⟩, h5⟩ := h
  exact ⟨var_step gPow hb h1, ⟨t2, p2, var_step gSyntax hb h2⟩, ⟨t3, p3, var_step gRange hb h3⟩, ⟨m, (hb.cell (World.block_lt_of_cell? w _ h4)).trans h4⟩, var_step gOps hb h5⟩

theorem ops_cell {w : World} (h : Tabs w) (j : Nat) : w.cell? ⟨0, j, none⟩ = opsCells[j]? := by
  have := World.var?_cell gOps h.2.2.2.2 j
  simpa using this
theorem opsCells_name (i : Nat) (hi : i < 21) : opsCells[i * 2]? = some (.string ⟨(nameAt i).toArray⟩) := by
  obtain rfl | rfl | rfl | rfl | rfl | rfl | rfl | rfl | rfl | rfl | rfl | rfl | rfl | rfl | rfl | rfl | rfl | rfl | rfl | rfl | rfl : i = 0 ∨ i = 1 ∨ i = 2 ∨ i = 3 ∨ i = 4 ∨ i = 5 ∨ i = 6 ∨ i = 7 ∨ i = 8 ∨ i = 9 ∨ i = 10 ∨ i = 11 ∨ i = 12 ∨ i = 13 ∨ i = 14 ∨ i = 15 ∨ i = 16 ∨ i = 17 ∨ i = 18 ∨ i = 19 ∨ i = 20 := by omega
  all_goals rfl
theorem opsCells_arity (i : Nat) (hi : i < 21) : opsCells[i * 2 + 1]? = some (.int .i64 (arityAt i)) := by
  obtain rfl | rfl | rfl | rfl | rfl | rfl | rfl | rfl | rfl | rfl | rfl | rfl | rfl | rfl | rfl | rfl | rfl | rfl | rfl | rfl | rfl : i = 0 ∨ i = 1 ∨ i = 2 ∨ i = 3 ∨ i = 4 ∨ i = 5 ∨ i = 6 ∨ i = 7 ∨ i = 8 ∨ i = 9 ∨ i = 10 ∨ i = 11 ∨ i = 12 ∨ i = 13 ∨ i = 14 ∨ i = 15 ∨ i = 16 ∨ i = 17 ∨ i = 18 ∨ i = 19 ∨ i = 20 := by omega
  all_goals rfl

end Go.Proofs.YtinmehodkeofaaaDoor.Q
