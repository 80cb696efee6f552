/- What the rows of this seat share: the listed variables give the tables; a world that lays them. -/
import Derived.Test.YtgbihkljbpionaaDoorRows
import Derived.Test.YtgbihkljbpionaaDoorETabs
import Derived.WalkKit
import Derived.ProofKit
import Derived.OpenShut
import Derived.ShutString
import Derived.Deep.DeepHandedRow
import Derived.Deep.DeepWitnessRowRef
import Derived.Lib.LaidTab
import Derived.Stop.LaidErr
namespace Go.Proofs.YtgbihkljbpionaaDoor.Q
open Go.ChangeShapes Go.WideShapes Go.ChangeAt Go.RowKit
set_option linter.unusedVariables false

theorem own : ownKnob Tryd.prog.godebug = none := by kernel_rfl
theorem laidOut : laidOutB Tryd.prog = true := by kernel_rfl
theorem gPowType : (Tryd.prog.globals[5]?).map (·.type) = some 110 := by kernel_rfl
theorem gSyntaxType : (Tryd.prog.globals[2]?).map (·.type) = some 61 := by kernel_rfl
theorem gRangeType : (Tryd.prog.globals[3]?).map (·.type) = some 61 := by kernel_rfl
theorem cells110 : Tryd.prog.cellsOf 110 = 20 := by kernel_rfl
theorem cells93 : Tryd.prog.cellsOf 93 = 1 := by kernel_rfl
theorem cells108 : Tryd.prog.cellsOf 108 = 1 := by kernel_rfl
theorem cells9 : Tryd.prog.cellsOf 9 = 1 := by kernel_rfl
theorem name106 : Tryd.prog.typeName? 3 106 = some "*errors.errorString" := by kernel_rfl
theorem row106 : ∀ u, Tryd.prog.typeName? 3 u = some "*errors.errorString" → u = 106 := by
  intro u h
  exact typeName_ptr_named (nm := "errors.errorString") (by kernel_rfl) (by kernel_rfl) (by decide) u h
theorem pow_eq : (Rows.laid_internal_strconv_uint64pow10 : DataW Unit) = Lib.tabData .u64 Lib.pow10Tab := by kernel_rfl

theorem tabs_of_laid {W : World} (h : laidMetH Tryd.prog Rows.lexMatchesRow.laid W) : Tabs W := by
  have h0 : laidMet Tryd.prog Rows.lexMatchesRow.laid W := h
  have h1 : laidMet Tryd.prog (("internal/strconv.uint64pow10", Lib.tabData .u64 Lib.pow10Tab) :: [("unicode/utf8.acceptRanges", Rows.laid_unicode_utf8_acceptRanges), ("strconv.ErrRange", Rows.laid_strconv_ErrRange), ("strconv.ErrSyntax", Rows.laid_strconv_ErrSyntax), ("unicode/utf8.first", Rows.laid_unicode_utf8_first)]) W := by
    rw [← pow_eq]
    exact h0.tail.tail
  obtain ⟨a3, s3, hv3, _⟩ := laid_sentinel (h1.tail.tail : laidMet Tryd.prog (("strconv.ErrRange", .iface "*errors.errorString" (.ptr (.agg [.lit (.string _)]))) :: [("strconv.ErrSyntax", Rows.laid_strconv_ErrSyntax), ("unicode/utf8.first", Rows.laid_unicode_utf8_first)]) W) gRange gRangeType Tryd.underlying61 row106 Tryd.underlying106 Tryd.underlying108 rfl rfl Tryd.underlying9 cells108 cells9
  obtain ⟨a2, s2, hv2, _⟩ := laid_sentinel (h1.tail.tail.tail : laidMet Tryd.prog (("strconv.ErrSyntax", .iface "*errors.errorString" (.ptr (.agg [.lit (.string _)]))) :: [("unicode/utf8.first", Rows.laid_unicode_utf8_first)]) W) gSyntax gSyntaxType Tryd.underlying61 row106 Tryd.underlying106 Tryd.underlying108 rfl rfl Tryd.underlying9 cells108 cells9
  exact ⟨Lib.tabIs_of_head gPow gPowType Tryd.underlying110 Tryd.underlying93 cells93 cells110 h1, ⟨_, _, hv2⟩, _, _, hv3⟩

/-- A WORLD FOR THE WITNESSES: the settled one, the listed variables holding what their initialisers lay. -/
def fill (cs : Array Value) : Obj → Obj
  | .cells _ t frozen => .cells cs t frozen
  | o => o
noncomputable def low : Nat := (World.holding Tryd.prog default ⟨#[], #[], []⟩).heap.size
def u8s (l : List Nat) : Array Value := (l.map (fun n : Nat => Value.int .u8 (Int.ofNat n))).toArray
def tab32 : List Nat := [0, 1, 28, 2, 29, 14, 24, 3, 30, 22, 20, 15, 25, 17, 4, 8, 31, 27, 13, 23, 21, 19, 16, 7, 26, 12, 18, 6, 11, 5, 10, 9]
def tab64 : List Nat := [0, 1, 56, 2, 57, 49, 28, 3, 61, 58, 42, 50, 38, 29, 17, 4, 62, 47, 59, 36, 45, 43, 51, 22, 53, 39, 33, 30, 24, 18, 12, 5, 63, 55, 48, 27, 60, 41, 37, 16, 46, 35, 44, 21, 52, 32, 23, 11, 54, 26, 40, 15, 34, 20, 31, 10, 25, 14, 19, 9, 13, 8, 7, 6]
def accept : List Nat := [128, 191, 160, 191, 128, 159, 144, 191, 128, 143, 0, 0, 0, 0, 0, 0, 0, 0, 0, 0, 0, 0, 0, 0, 0, 0, 0, 0, 0, 0, 0, 0]
noncomputable def laidWorld (os : Os) : World :=
  let w0 := World.holding Tryd.prog os ⟨#[.cells #[.string ⟨#[118, 97, 108, 117, 101, 32, 111, 117, 116, 32, 111, 102, 32, 114, 97, 110, 103, 101]⟩] 108, .cells #[.string ⟨#[105, 110, 118, 97, 108, 105, 100, 32, 115, 121, 110, 116, 97, 120]⟩] 108], #[], []⟩
  { w0 with heap := ((((((w0.heap.modify 0 (fill (u8s Go.Pinned.utf8FirstZ))).modify 1 (fill (u8s accept))).modify 2 (fill #[.iface 106 (.pointer (some ⟨low + 1, 0, none⟩))])).modify 3 (fill #[.iface 106 (.pointer (some ⟨low, 0, none⟩))])).modify 5 (fill (Lib.pow10Tab.map fun z => Value.int .u64 z).toArray)).modify 6 (fill (u8s tab32))).modify 7 (fill (u8s tab64)) }
theorem laid_met (os : Os) (args : Array Value) : laidMet Tryd.prog Rows.lexMatchesRow.laid ((laidWorld os).forCall (fun _ _ => 0) ⟨#[], args, []⟩).memory :=
  laidMet_of_run' 8 (by kernel_rfl) (by kernel_rfl)

end Go.Proofs.YtgbihkljbpionaaDoor.Q
