/- Plain law: ScriptCommand answers true at every command and all numbers. -/
import Derived.Test.YtinmehodkeofaaaDoorLSane
import Derived.Test.YtinmehodkeofaaaDoorLTextR
import Derived.Test.YtinmehodkeofaaaDoorLFaultsR
import Derived.Test.YtinmehodkeofaaaDoorQx20
namespace Go.Proofs.YtinmehodkeofaaaDoor.Q
open Go.RowKit Go.Proofs.YtinmehodkeofaaaDoorW.PrintWords
set_option linter.unusedVariables false
set_option linter.unusedSimpArgs false

theorem script_text_eq (l : List S31) (h : l.all validC = true) (hl : l.length ≤ 1000) : script_Text.f l = some (B (textOf l)) := by
  unfold script_Text.f
  rw [if_pos ⟨hl, h⟩]
  rfl
theorem sc_end (c : S31) (h4 : -9223372036854775808 ≤ c.f4 ∧ c.f4 ≤ 9223372036854775807) (n : Int) (hn : n ≤ 100) (k : Nat) (hk : 250 ≤ k) :
    bootchainlaw39_ScriptCommand.j2 (k + 1) n true false c.f0 c.f1 c.f2 c.f3 c.f4 = some true := by
  rw [bootchainlaw39_ScriptCommand.j2, if_neg (by simp), if_pos rfl, faults_eq c n (by omega), Option.bind_some, ref_faults_eq c n k (by omega) (by omega) h4.1 h4.2, Option.bind_some, same_faults_eq _ k (by split <;> simp [faultsL] <;> omega) (by split <;> simp [faultsL] <;> omega), Option.bind_some]
theorem pure_command (c : S31) (h4 : -9223372036854775808 ≤ c.f4 ∧ c.f4 ≤ 9223372036854775807) (a1 a2 : Int) : bootchainlaw39_ScriptCommand.f 1000 c.f0 c.f1 c.f2 c.f3 c.f4 a1 a2 = some true := by
  obtain ⟨K, hK⟩ : ∃ K, K = 990 := ⟨_, rfl⟩
  rw [show 1000 = K + 10 by omega]
  unfold bootchainlaw39_ScriptCommand.f
  rw [sanity_true, Option.bind_some]
  by_cases hl : (c.f1.length : Int) > 10
  · rw [if_pos hl, bootchainlaw39_ScriptCommand.j0, if_pos rfl]
  · rw [if_neg hl, bootchainlaw39_ScriptCommand.j0]
    by_cases h2 : a2 > 100
    · rw [decide_eq_true h2, if_pos rfl]
    · rw [decide_eq_false h2, if_neg (by simp), script_valid_eq c _ (by omega) (by omega), Option.bind_some, ref_valid_eq c _ (by omega) (by omega), Option.bind_some, bne_self_eq_false, if_neg (by simp)]
      have ha := refArity_eq (K + 7) a1
      rw [show script_Arity.f a1 = some (arity a1) from rfl, Option.bind_some, ha, Option.bind_some, bne_self_eq_false]
      rw [bootchainlaw39_ScriptCommand.j1, if_neg (by simp)]
      by_cases hv : validC c = true
      · have hall : [c].all validC = true := by simp [hv]
        rw [hv, if_pos rfl, script_text_eq [c] hall (by simp), Option.bind_some, ref_text_eq [c] hall (by simp) _ (by simp; omega), Option.bind_some, bne_self_eq_false]
        exact sc_end c h4 a2 (by omega) _ (by omega)
      · rw [Bool.eq_false_iff.2 hv, if_neg (by simp)]
        exact sc_end c h4 a2 (by omega) _ (by omega)
end Go.Proofs.YtinmehodkeofaaaDoor.Q
