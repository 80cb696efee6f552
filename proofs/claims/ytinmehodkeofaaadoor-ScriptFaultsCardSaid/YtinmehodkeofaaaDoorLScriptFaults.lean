/- Plain law: ScriptFaults answers true at every command and number. -/
import Derived.Test.YtinmehodkeofaaaDoorLSane
import Derived.Test.YtinmehodkeofaaaDoorQx24
import Derived.Test.YtinmehodkeofaaaDoorEArgs
namespace Go.Proofs.YtinmehodkeofaaaDoor.Q
open Go.RowKit Go.Proofs.YtinmehodkeofaaaDoorW.PrintWords
set_option linter.unusedVariables false
set_option linter.unusedSimpArgs false

theorem faultsL_len (c : S31) (n : Nat) : (faultsL c n).length = n := by simp [faultsL]
theorem faultsL_at (c : S31) (n j : Nat) (h : j < n) : rd_T42 (faultsL c n) (j : Int) = faultAt c j := by
  unfold rd_T42 faultsL
  rw [Int.toNat_natCast, List.getD_eq_getElem?_getD, List.getElem?_map, List.getElem?_range h]
  rfl
theorem bit_zero (k : Nat) : bitOf 0 k = false := by
  unfold bitOf
  rw [Int.zero_ediv]
  rfl
theorem sf_step (c : S31) (n j k : Nat) (hj : j < n) (hn : n ≤ 255) (R : Option Bool) (h : bootchainlaw39_ScriptFaults.l0 k true (faultsL c n) ((j : Int) + 1) c.f0 c.f1 c.f2 c.f3 c.f4 = R) :
    bootchainlaw39_ScriptFaults.j2 (k + 1) true (faultsL c n) (j : Int) false c.f0 c.f1 c.f2 c.f3 c.f4 = R := by
  rw [bootchainlaw39_ScriptFaults.j2, if_neg (by simp), wrap_small _ (by omega) (by omega), h]
  have hz : ∀ R : Option Bool, (if c.f4 = 0 then (if (rd_T42 (faultsL c n) (j : Int)).f2 = true then some false else R) else R) = R := by
    intro R
    by_cases h4 : c.f4 = 0
    · rw [if_pos h4, faultsL_at c n j hj]
      have : (faultAt c j).f2 = false := by
        show bitOf c.f4 (j % 16) = false
        rw [h4]
        exact bit_zero _
      rw [this, if_neg (by simp)]
    · rw [if_neg h4]
  by_cases h16 : (j : Int) ≥ 16
  · obtain ⟨i, rfl⟩ : ∃ i, j = i + 16 := ⟨j - 16, by omega⟩
    have hw : wrap64 (((i + 16 : Nat) : Int) - 16) = (i : Int) := by unfold wrap64; omega
    have hm : mx (i : Int) 0 = (i : Int) := by unfold mx; rw [if_neg (by omega)]
    rw [if_pos h16, if_pos (by omega), if_pos (by rw [faultsL_len]; omega), hw, hm, if_pos (by omega), if_pos (by rw [faultsL_len]; omega)]
    have e : ((rd_T42 (faultsL c n) ((i + 16 : Nat) : Int)).f2 != (rd_T42 (faultsL c n) (i : Int)).f2) = false := by
      rw [faultsL_at c n _ hj, faultsL_at c n i (by omega)]
      show (bitOf c.f4 ((i + 16) % 16) != bitOf c.f4 (i % 16)) = false
      rw [Nat.add_mod_right]
      simp
    rw [e, if_neg (by simp)]
    exact hz R
  · rw [if_neg h16]
    have hz := hz R
    by_cases h4 : c.f4 = 0
    · rw [if_pos h4] at hz ⊢
      rw [if_pos (by omega), if_pos (by rw [faultsL_len]; omega)]
      exact hz
    · rw [if_neg h4]
theorem sf_loop (c : S31) (n : Nat) (hn : n ≤ 255) : ∀ (d j k : Nat), j + d = n → 2 * d < k →
    bootchainlaw39_ScriptFaults.l0 k true (faultsL c n) (j : Int) c.f0 c.f1 c.f2 c.f3 c.f4 = some true
  | d, j, 0, _, hk => by omega
  | 0, j, k + 1, hj, hk => by rw [bootchainlaw39_ScriptFaults.l0, if_neg (by rw [faultsL_len]; omega)]
  | d + 1, j, 1, hj, hk => by omega
  | d + 1, j, k + 2, hj, hk => by
    have ih := sf_step c n j k (by omega) hn _ (sf_loop c n hn d (j + 1) k (by omega) (by omega))
    have hf : (faultAt c j).f0 = ((j : Int) == c.f2) := rfl
    rw [bootchainlaw39_ScriptFaults.l0, if_pos (by rw [faultsL_len]; omega), if_pos (by omega), faultsL_at c n j (by omega), hf, bne_self_eq_false, if_neg (by simp)]
    by_cases hc : (j : Int) = c.f2
    · have h1 : (faultAt c j).f1 = c.f3 := by show (if (j : Int) = c.f2 then c.f3 else 0) = c.f3; rw [if_pos hc]
      rw [beq_iff_eq.2 hc, if_pos rfl, h1, if_pos rfl, if_pos rfl]
      exact ih
    · have h1 : (faultAt c j).f1 = 0 := by show (if (j : Int) = c.f2 then c.f3 else 0) = 0; rw [if_neg hc]
      rw [beq_eq_false_iff_ne.2 hc, if_neg (by simp), if_neg (by simp), h1]
      exact ih
theorem pure_faults (c : S31) (n : Int) (h0 : 0 ≤ n) (h1 : n ≤ 255) : bootchainlaw39_ScriptFaults.f 1000 c.f0 c.f1 c.f2 c.f3 c.f4 n = some true := by
  obtain ⟨K, hK⟩ : ∃ K, K = 990 := ⟨_, rfl⟩
  rw [show 1000 = K + 10 by omega]
  unfold bootchainlaw39_ScriptFaults.f
  rw [sanity_true, Option.bind_some]
  by_cases hl : (c.f1.length : Int) > 10
  · rw [if_pos hl, bootchainlaw39_ScriptFaults.j0, if_pos rfl]
  · rw [if_neg hl, script_valid_eq c _ (by omega) (by omega), Option.bind_some, bootchainlaw39_ScriptFaults.j0]
    by_cases hv : validC c = true
    · obtain ⟨m, rfl⟩ : ∃ m : Nat, n = (m : Int) := ⟨n.toNat, by omega⟩
      have hw : wrap64 (m : Int) = (m : Int) := by unfold wrap64; omega
      rw [hv, if_neg (by simp), hw, faults_eq c (m : Int) (by omega), Option.bind_some, if_neg (show ¬ (m : Int) < 0 by omega), Int.toNat_natCast, if_pos (by rw [faultsL_len])]
      exact sf_loop c m (by omega) m 0 _ (by omega) (by omega)
    · rw [Bool.eq_false_iff.2 hv]
      exact if_pos rfl
theorem Pure_Faults (c : S31) (n : Int) (hN : NumsOf c) (w : (Lit.int .u8 n).wf = true) : ∃ k, bootchainlaw39_ScriptFaults.f k c.f0 c.f1 c.f2 c.f3 c.f4 n = some true := by
  unfold Lit.wf at w
  rw [Bool.and_eq_true, decide_eq_true_eq, decide_eq_true_eq] at w
  have h1 : n ≤ 255 := by
    have := w.2
    have e : IntKind.u8.max = 255 := rfl
    omega
  exact ⟨1000, pure_faults c n w.1 h1⟩
end Go.Proofs.YtinmehodkeofaaaDoor.Q
