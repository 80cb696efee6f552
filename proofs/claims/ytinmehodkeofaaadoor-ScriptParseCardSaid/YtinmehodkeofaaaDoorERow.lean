/- What the rows of this seat share: the listed variables give the tables; a world that lays them. -/
import Derived.Test.YtinmehodkeofaaaDoorRows
import Derived.Test.YtinmehodkeofaaaDoorETabs
import Derived.WalkKit
import Derived.ProofKit
import Derived.OpenShut
import Derived.ShutString
import Derived.ChangeSame
import Derived.Deep.DeepHandedRow
import Derived.Deep.DeepWitnessRowRef
import Derived.Lib.LaidTab
import Derived.Stop.LaidErr
import Derived.Shelf.Vars
namespace Go.Proofs.YtinmehodkeofaaaDoor.Q
open Go.ChangeShapes Go.WideShapes Go.ChangeAt Go.RowKit
set_option linter.unusedVariables false
set_option linter.unusedSimpArgs false

theorem own : ownKnob Tryd.prog.godebug = none := by kernel_rfl
theorem laidOut : laidOutB Tryd.prog = true := by kernel_rfl
theorem gOpsType : (Tryd.prog.globals[0]?).map (·.type) = some 60 := by kernel_rfl
theorem gPowType : (Tryd.prog.globals[2]?).map (·.type) = some 109 := by kernel_rfl
theorem gSyntaxType : (Tryd.prog.globals[5]?).map (·.type) = some 68 := by kernel_rfl
theorem gRangeType : (Tryd.prog.globals[6]?).map (·.type) = some 68 := by kernel_rfl
theorem cells109 : Tryd.prog.cellsOf 109 = 20 := by kernel_rfl
theorem cells95 : Tryd.prog.cellsOf 95 = 1 := by kernel_rfl
theorem cells130 : Tryd.prog.cellsOf 130 = 1 := by kernel_rfl
theorem cells59 : Tryd.prog.cellsOf 59 = 2 := by kernel_rfl
theorem cells60 : Tryd.prog.cellsOf 60 = 42 := by kernel_rfl
theorem cells3 : Tryd.prog.cellsOf 3 = 1 := by kernel_rfl
theorem cells9 : Tryd.prog.cellsOf 9 = 1 := by kernel_rfl
theorem row128 : ∀ u, Tryd.prog.typeName? 3 u = some "*errors.errorString" → u = 128 := by
  intro u h
  exact typeName_ptr_named (nm := "errors.errorString") (by kernel_rfl) (by kernel_rfl) (by decide) u h
theorem pow_eq : (Rows.laid_internal_strconv_uint64pow10 : DataW Unit) = Lib.tabData .u64 Lib.pow10Tab := by kernel_rfl

def opsData : DataW Unit := .agg (opsTab.map fun x => .agg [.lit (.string x.1), .lit (.int .i64 (x.2 : Int))])
theorem ops_eq : (Rows.laid_bootchain_script_operations : DataW Unit) = opsData := by kernel_rfl
theorem ops_at (i : Nat) (hi : i < 21) : opsTab[i]? = some (nameAt i, (opsTab.getD i ([], 0)).2) := by
  have hl : i < opsTab.length := hi
  have e : opsTab.getD i ([], 0) = opsTab[i] := by rw [List.getD_eq_getElem?_getD, List.getElem?_eq_getElem hl]; rfl
  rw [List.getElem?_eq_getElem hl]
  unfold nameAt
  rw [e]

theorem cells_of_ops {enc : TypeId × Value → Unit} {w : World} {base : Nat} {sp : Nat → Bool} {held : Bool} {fuel : Nat} {cs : List Value} {p : List MemPlace}
    (h : DataW.trod enc Tryd.prog w base sp held fuel 60 cs = some (opsData, p)) : cs = opsCells := by
  obtain ⟨xs, m, _, hx, hl, hlen, hf⟩ := DataW.trod_array Tryd.underlying60 h
  rw [cells60] at hl
  have hxs : xs.map (·.1) = opsTab.map fun x => (DataW.agg [.lit (.string x.1), .lit (.int .i64 (x.2 : Int))] : DataW Unit) := by
    have := congrArg Prod.fst hx
    simpa [opsData] using this.symm
  have at_ : ∀ i, i < 21 → cs[i * 2]? = some (.string ⟨(nameAt i).toArray⟩) ∧ cs[i * 2 + 1]? = some (.int .i64 (arityAt i)) := by
    intro i hi
    have h1 := hf i hi
    rw [cells59] at h1
    have hi' : i < xs.length := by omega
    rw [List.getElem?_eq_getElem hi'] at h1
    obtain ⟨y0, y1, n, hy, hcl, h0, h2⟩ := trod_struct2 Tryd.underlying59 h1
    simp only [cells9, cells3] at h0 h2
    obtain ⟨s, e0, d0, _⟩ := DataW.trod_string Tryd.underlying9 h0
    obtain ⟨z, e1, d1, _⟩ := DataW.trod_int Tryd.underlying3 h2
    have hd : (xs.map (·.1))[i]? = some (DataW.agg [y0.1, y1.1]) := by
      rw [List.getElem?_map, List.getElem?_eq_getElem hi']
      simp [hy]
    rw [hxs, List.getElem?_map, ops_at i hi, d0, d1] at hd
    simp only [Option.map_some, Option.some.injEq, DataW.agg.injEq, List.cons.injEq, DataW.lit.injEq, Lit.string.injEq, Lit.int.injEq, true_and, and_true] at hd
    obtain ⟨hs, hz⟩ := hd
    have c0 : cs[i * 2]? = some (.string s) := by
      have := congrArg (·[0]?) e0
      simpa [List.getElem?_take, List.getElem?_drop] using this
    have c1 : cs[i * 2 + 1]? = some (.int .i64 z) := by
      have := congrArg (·[0]?) e1
      simpa [List.getElem?_take, List.getElem?_drop] using this
    refine ⟨?_, ?_⟩
    · rw [c0, hs]
    · rw [c1, ← hz]
      rfl
  have hol : opsCells.length = 42 := by kernel_rfl
  apply List.ext_getElem?
  intro j
  by_cases hj : j < 42
  · rcases Nat.mod_two_eq_zero_or_one j with h0 | h0
    · obtain ⟨i, rfl⟩ : ∃ i, j = i * 2 := ⟨j / 2, by omega⟩
      rw [(at_ i (by omega)).1, opsCells_name i (by omega)]
    · obtain ⟨i, rfl⟩ : ∃ i, j = i * 2 + 1 := ⟨j / 2, by omega⟩
      rw [(at_ i (by omega)).2, opsCells_arity i (by omega)]
  · rw [List.getElem?_eq_none (by omega), List.getElem?_eq_none (by omega)]

theorem ops_of_head {W : World} {rest : List (String × DataW Unit)} (h : laidMet Tryd.prog (("bootchain/script.operations", opsData) :: rest) W) : W.var? Tryd.prog "bootchain/script.operations" = some opsCells.toArray := by
  obtain ⟨ps, ⟨g', t', cs, fuel, p, q, hg', ht', hvar, hd, _, _⟩, _⟩ := h
  obtain rfl := Option.some.inj (gOps.symm.trans hg')
  obtain rfl := Option.some.inj (gOpsType.symm.trans ht')
  rw [hvar, ← cells_of_ops hd]

theorem maxLen_of {W : World} (h : W.ShapedOpen Tryd.prog) : ∃ m, W.cell? ⟨1, 0, none⟩ = some (.int .i64 m) :=
  cell_of_shapedOpen_int (zero := #[.int .i64 0]) h (of_decide_eq_true (by kernel_rfl)) (t := 3) (by kernel_rfl) rfl (by kernel_rfl) (by kernel_rfl) Tryd.underlying3

theorem tabs_of_laid {W : World} (h : laidMetH Tryd.prog Rows.scriptParseRow.laid W) (hs : W.ShapedOpen Tryd.prog) : Tabs W := by
  have h0 : laidMet Tryd.prog Rows.scriptParseRow.laid W := h
  have h1 : laidMet Tryd.prog (("internal/strconv.uint64pow10", Lib.tabData .u64 Lib.pow10Tab) :: [("unicode/utf8.acceptRanges", Rows.laid_unicode_utf8_acceptRanges), ("strconv.ErrRange", Rows.laid_strconv_ErrRange), ("strconv.ErrSyntax", Rows.laid_strconv_ErrSyntax), ("bootchain/script.operations", opsData), ("unicode/utf8.first", Rows.laid_unicode_utf8_first)]) W := by
    rw [← pow_eq, ← ops_eq]
    exact h0.tail.tail
  obtain ⟨a3, s3, hv3, _⟩ := laid_sentinel (h1.tail.tail : laidMet Tryd.prog (("strconv.ErrRange", .iface "*errors.errorString" (.ptr (.agg [.lit (.string _)]))) :: [("strconv.ErrSyntax", Rows.laid_strconv_ErrSyntax), ("bootchain/script.operations", opsData), ("unicode/utf8.first", Rows.laid_unicode_utf8_first)]) W) gRange gRangeType Tryd.underlying68 row128 Tryd.underlying128 Tryd.underlying130 rfl rfl Tryd.underlying9 cells130 cells9
  obtain ⟨a2, s2, hv2, _⟩ := laid_sentinel (h1.tail.tail.tail : laidMet Tryd.prog (("strconv.ErrSyntax", .iface "*errors.errorString" (.ptr (.agg [.lit (.string _)]))) :: [("bootchain/script.operations", opsData), ("unicode/utf8.first", Rows.laid_unicode_utf8_first)]) W) gSyntax gSyntaxType Tryd.underlying68 row128 Tryd.underlying128 Tryd.underlying130 rfl rfl Tryd.underlying9 cells130 cells9
  exact ⟨Lib.tabIs_of_head gPow gPowType Tryd.underlying109 Tryd.underlying95 cells95 cells109 h1, ⟨_, _, hv2⟩, ⟨_, _, hv3⟩, maxLen_of hs, ops_of_head h1.tail.tail.tail.tail⟩

/-- A WORLD FOR THE WITNESSES: the settled one, the listed variables holding what their initialisers lay. -/
def fill (cs : Array Value) : Obj → Obj
  | .cells _ t frozen => .cells cs t frozen
  | o => o
noncomputable def low : Nat := (World.holding Tryd.prog default ⟨#[], #[], []⟩).heap.size
def u8s (l : List Nat) : Array Value := (l.map (fun n : Nat => Value.int .u8 (Int.ofNat n))).toArray
def tab32 : List Nat := [0, 1, 28, 2, 29, 14, 24, 3, 30, 22, 20, 15, 25, 17, 4, 8, 31, 27, 13, 23, 21, 19, 16, 7, 26, 12, 18, 6, 11, 5, 10, 9]
def tab64 : List Nat := [0, 1, 56, 2, 57, 49, 28, 3, 61, 58, 42, 50, 38, 29, 17, 4, 62, 47, 59, 36, 45, 43, 51, 22, 53, 39, 33, 30, 24, 18, 12, 5, 63, 55, 48, 27, 60, 41, 37, 16, 46, 35, 44, 21, 52, 32, 23, 11, 54, 26, 40, 15, 34, 20, 31, 10, 25, 14, 19, 9, 13, 8, 7, 6]
def accept : List Nat := [128, 191, 160, 191, 128, 159, 144, 191, 128, 143, 0, 0, 0, 0, 0, 0, 0, 0, 0, 0, 0, 0, 0, 0, 0, 0, 0, 0, 0, 0, 0, 0]
noncomputable def laidWorld (os : Os) : World :=
  let w0 := World.holding Tryd.prog os ⟨#[.cells #[.string ⟨#[118, 97, 108, 117, 101, 32, 111, 117, 116, 32, 111, 102, 32, 114, 97, 110, 103, 101]⟩] 130, .cells #[.string ⟨#[105, 110, 118, 97, 108, 105, 100, 32, 115, 121, 110, 116, 97, 120]⟩] 130], #[], []⟩
  { w0 with heap := (((((((w0.heap.modify 0 (fill opsCells.toArray)).modify 2 (fill (Lib.pow10Tab.map fun z => Value.int .u64 z).toArray)).modify 3 (fill (u8s Go.Pinned.utf8FirstZ))).modify 4 (fill (u8s accept))).modify 5 (fill #[.iface 128 (.pointer (some ⟨low + 1, 0, none⟩))])).modify 6 (fill #[.iface 128 (.pointer (some ⟨low, 0, none⟩))])).modify 7 (fill (u8s tab32))).modify 8 (fill (u8s tab64)) }
theorem laid_met (os : Os) (args : Array Value) : laidMet Tryd.prog Rows.scriptParseRow.laid ((laidWorld os).forCall (fun _ _ => 0) ⟨#[], args, []⟩).memory :=
  laidMet_of_run' 8 (by kernel_rfl) (by kernel_rfl)

end Go.Proofs.YtinmehodkeofaaaDoor.Q
