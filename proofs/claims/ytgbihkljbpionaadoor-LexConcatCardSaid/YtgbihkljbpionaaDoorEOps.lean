/- The contract of lex.operators: the table of the signs. -/
import Derived.Test.YtgbihkljbpionaaDoorESpec
namespace Go.Proofs.YtgbihkljbpionaaDoor.Q
open Go.RowKit Go.Proofs.YtgbihkljbpionaaDoorW.PrintWords
set_option linter.unusedVariables false
set_option linter.unusedSimpArgs false
def opsA : Array Value := #[.string ⟨#[61, 61]⟩, .string ⟨#[38, 38]⟩, .string ⟨#[124, 124]⟩, .string ⟨#[62, 61]⟩, .string ⟨#[123]⟩, .string ⟨#[125]⟩, .string ⟨#[40]⟩, .string ⟨#[41]⟩, .string ⟨#[59]⟩, .string ⟨#[61]⟩, .string ⟨#[43]⟩, .string ⟨#[45]⟩, .string ⟨#[42]⟩, .string ⟨#[60]⟩, .string ⟨#[33]⟩]
set_option maxRecDepth 100000 in
set_option maxHeartbeats 400000 in
theorem ops_calls (w : World) : Calls Tryd.prog 25 #[] w fun e w' => e = .returned (.agg opsA) ∧ Below w.heap.size w w' := by
  have hu45 := Tryd.underlying45
  go_enter Tryd.func25, Tryd.ntmps25
  go_wp2
  refine bodyPost_ret (results_single rfl (.cell w.heap.size 45 opsA (0, 0) _ rfl (heap_alloc_new w _) Tryd.underlying45 rfl (by kernel_rfl) .nil)) rfl ?_
  exact ⟨rfl, (Below.refl _ _).alloc (Nat.le_refl _) _⟩
end Go.Proofs.YtgbihkljbpionaaDoor.Q
