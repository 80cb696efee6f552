/- The contract of script.Arity. -/
import Derived.Test.YtinmehodkeofaaaDoorETabs
namespace Go.Proofs.YtinmehodkeofaaaDoor.Q
open Go.RowKit Go.Proofs.YtinmehodkeofaaaDoorW.PrintWords Go.Proofs.YtinmehodkeofaaaDoorW.PrintLast
set_option linter.unusedVariables false
set_option linter.unusedSimpArgs false

theorem script_Arity.calls (a0 : Int) (r : Int) (w : World) (hTb_ : Tabs w) (h : script_Arity.f a0 = some r) : Calls Tryd.prog 15 #[.int .i64 a0] w fun e w' => e = .returned (.int .i64 r) ∧ Below w.heap.size w w' := by
  obtain rfl := Option.some.inj h
  unfold arity
  by_cases h0 : a0 ≤ 0
  · rw [if_pos (.inl h0)]
    have h0b : decide (a0 ≤ 0) = true := decide_eq_true h0
    clear h0
    go_enter Tryd.func15, Tryd.ntmps15
    go_wp2
    go_ret
    exact ⟨rfl, Below.refl _ _⟩
  · have h0b : decide (a0 ≤ 0) = false := decide_eq_false h0
    by_cases h1 : 21 ≤ a0
    · rw [if_pos (.inr h1)]
      have h1b : decide (21 ≤ a0) = true := decide_eq_true h1
      clear h0 h1
      go_enter Tryd.func15, Tryd.ntmps15
      go_wp2
      go_ret
      exact ⟨rfl, Below.refl _ _⟩
    · rw [if_neg (by omega)]
      have h1b : decide (21 ≤ a0) = false := decide_eq_false h1
      obtain ⟨i, rfl⟩ : ∃ i : Nat, a0 = (i : Int) := ⟨a0.toNat, by omega⟩
      rw [Int.toNat_natCast]
      have hc : w.cell? ⟨0, i * 2 + 1, none⟩ = some (.int .i64 (arityAt i)) := (ops_cell hTb_ _).trans (opsCells_arity i (by omega))
      have hlt : (i : Int) < 21 := by omega
      have hlt' := eq_true hlt
      have hn : i < 21 := by omega
      go_enter Tryd.func15, Tryd.ntmps15
      go_wp2
      go_ret
      exact ⟨rfl, Below.refl _ _⟩

end Go.Proofs.YtinmehodkeofaaaDoor.Q
