/- Plain law: ScriptRoundTrip answers true at all commands and every number. -/
import Derived.Test.YtinmehodkeofaaaDoorLCmds
import Derived.Test.YtinmehodkeofaaaDoorQx22
namespace Go.Proofs.YtinmehodkeofaaaDoor.Q
open Go.RowKit Go.Proofs.YtinmehodkeofaaaDoorW.PrintWords
set_option linter.unusedVariables false
set_option linter.unusedSimpArgs false

theorem rt_end (l0 l : List S31) (hok : ∀ c ∈ l, Ok c) (hl : l.length ≤ 1000) (a1 : Int) (j k : Nat) (hj : ¬ (j : Int) ≤ Int.tmod (wrap64 a1) 10) (hk : 500 ≤ k) :
    bootchainlaw39_ScriptRoundTrip.l0 (k + 1) l0 a1 true l (j : Int) = some true := by
  rw [bootchainlaw39_ScriptRoundTrip.l0, if_neg hj, text_f l hok hl, Option.bind_some, parse_B l hok hl, Option.bind_some]
  by_cases h : 400 < l.length
  · rw [if_pos h, if_pos (by omega), if_pos rfl]
    rfl
  · rw [if_neg h, if_neg (by omega), if_pos rfl]
    show (if (0 : Int) = 0 then ((bootchainref39_Same.f k l l).bind _) else _) = _
    rw [if_pos rfl, same_eq l hok (by omega) _ (by omega)]
    rfl
theorem rt_loop (l0 : List S31) (h0 : ∀ c ∈ l0, Ok c) (hl0 : l0.length ≤ 45) (a1 : Int) (t : Nat) (ht : Int.tmod (wrap64 a1) 10 = (t : Int)) (ht9 : t ≤ 9) : ∀ (d j k : Nat) (l : List S31), j + d = t + 1 → (∀ c ∈ l, Ok c) → l.length ≤ 45 * j → d + 501 ≤ k →
    bootchainlaw39_ScriptRoundTrip.l0 k l0 a1 true l (j : Int) = some true
  | 0, j, k, l, hj, hok, hl, hk => by
    obtain ⟨k, rfl⟩ : ∃ m, k = m + 1 := ⟨k - 1, by omega⟩
    exact rt_end l0 l hok (by omega) a1 j k (by rw [ht]; omega) (by omega)
  | d + 1, j, k, l, hj, hok, hl, hk => by
    obtain ⟨k, rfl⟩ : ∃ m, k = m + 1 := ⟨k - 1, by omega⟩
    rw [bootchainlaw39_ScriptRoundTrip.l0, if_pos (by rw [ht]; omega), if_pos (by omega), wrap_small _ (by omega) (by omega)]
    refine rt_loop l0 h0 hl0 a1 t ht ht9 d (j + 1) k (l ++ l0) (by omega) (fun c hc => ?_) (by rw [List.length_append]; omega) (by omega)
    rcases List.mem_append.1 hc with hc | hc
    · exact hok c hc
    · exact h0 c hc
theorem pure_roundtrip (l : List S31) (n : Int) (h0 : 0 ≤ n) (h1 : n ≤ 255) : bootchainlaw39_ScriptRoundTrip.f 1000 l n = some true := by
  obtain ⟨K, hK⟩ : ∃ K, K = 989 := ⟨_, rfl⟩
  rw [show 1000 = (K + 1) + 10 by omega]
  unfold bootchainlaw39_ScriptRoundTrip.f
  rw [sanity_true, Option.bind_some]
  by_cases hl : (l.length : Int) > 45
  · rw [if_pos hl, bootchainlaw39_ScriptRoundTrip.j0, if_pos rfl]
  · rw [if_neg hl, law_valid_eq l (by omega) _ (by omega), Option.bind_some, bootchainlaw39_ScriptRoundTrip.j0]
    by_cases hv : l.all validC = true
    · rw [hv, if_neg (by simp)]
      obtain ⟨m, rfl⟩ : ∃ m : Nat, n = (m : Int) := ⟨n.toNat, by omega⟩
      have hw : wrap64 (m : Int) = (m : Int) := by unfold wrap64; omega
      have ht : Int.tmod (wrap64 (m : Int)) 10 = ((m % 10 : Nat) : Int) := by rw [hw]; rfl
      exact rt_loop l (fun c hc => Ok.of (List.all_eq_true.1 hv c hc)) (by omega) (m : Int) (m % 10) ht (by omega) (m % 10 + 1) 0 _ [] (by omega) (fun c hc => by cases hc) (by simp) (by omega)
    · rw [Bool.eq_false_iff.2 hv]
      exact if_pos rfl
end Go.Proofs.YtinmehodkeofaaaDoor.Q
