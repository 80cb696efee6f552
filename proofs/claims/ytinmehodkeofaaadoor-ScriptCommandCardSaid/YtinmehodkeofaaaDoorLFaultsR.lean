/- Plain laws of the script chapter: the reference's faults. -/
import Derived.Test.YtinmehodkeofaaaDoorLFaults
import Derived.Test.YtinmehodkeofaaaDoorLBaseR
import Derived.Test.YtinmehodkeofaaaDoorQx17
import Derived.Test.YtinmehodkeofaaaDoorQx19
namespace Go.Proofs.YtinmehodkeofaaaDoor.Q
open Go.RowKit Go.Proofs.YtinmehodkeofaaaDoorW.PrintWords
set_option linter.unusedVariables false
set_option linter.unusedSimpArgs false

theorem ref_bit_step (n : Int) (h0 : -9223372036854775808 ≤ n) (h1 : n ≤ 9223372036854775807) :
    (if n < 0 then (if Int.tmod n 2 = 0 then wrap64 (Int.tdiv n 2) else wrap64 (Int.tdiv (wrap64 (n - 1)) 2)) else wrap64 (Int.tdiv n 2)) = n / 2 := by
  have ht := tmod2 n
  by_cases hn : n < 0
  · rw [if_pos hn]
    by_cases hm : Int.tmod n 2 = 0
    · rw [if_pos hm]
      have := ht.1 hm
      rw [Int.tdiv_eq_ediv, if_pos (.inr (by omega))]
      unfold wrap64
      omega
    · rw [if_neg hm]
      have h2 : n % 2 = 1 := by have := mt ht.2 hm; omega
      have hw : wrap64 (n - 1) = n - 1 := by unfold wrap64; omega
      rw [hw, Int.tdiv_eq_ediv, if_pos (.inr (by omega))]
      unfold wrap64
      omega
  · rw [if_neg hn, Int.tdiv_eq_ediv, if_pos (.inl (by omega))]
    unfold wrap64
    omega
theorem ref_bit_loop : ∀ (d : Nat) (n : Int) (j m k : Nat), j + d = m → m ≤ 1000 → d < k → -9223372036854775808 ≤ n → n ≤ 9223372036854775807 →
    bootchainref39_Bit.l0 k n (m : Int) (j : Int) = some (bitOf n d)
  | d, n, j, m, 0, _, _, hk, _, _ => by omega
  | 0, n, j, m, k + 1, hj, hm, hk, h0, h1 => by
    rw [bootchainref39_Bit.l0, if_neg (by omega)]
    unfold bitOf
    congr 1
    rw [Int.pow_zero, Int.ediv_one, Bool.eq_iff_iff, bne_iff_ne, beq_iff_eq, ne_eq, tmod2]
    omega
  | d + 1, n, j, m, k + 1, hj, hm, hk, h0, h1 => by
    have ih := ref_bit_loop d (n / 2) (j + 1) m k (by omega) hm (by omega) (by omega) (by omega)
    have e : bitOf n (d + 1) = bitOf (n / 2) d := by
      unfold bitOf
      rw [Int.pow_succ, Int.mul_comm, ← Int.ediv_ediv_of_nonneg (by omega)]
    have hs := ref_bit_step n h0 h1
    rw [bootchainref39_Bit.l0, if_pos (by omega), wrap_small _ (by omega) (by omega), show ((j : Int) + 1) = ((j + 1 : Nat) : Int) from rfl, e, ← ih]
    by_cases hn : n < 0
    · rw [if_pos hn] at hs ⊢
      by_cases hm2 : Int.tmod n 2 = 0
      · rw [if_pos hm2] at hs ⊢
        rw [hs]
      · rw [if_neg hm2] at hs ⊢
        rw [hs]
    · rw [if_neg hn] at hs ⊢
      rw [hs]
theorem ref_bit_eq (n : Int) (i k : Nat) (hk : 17 ≤ k) (h0 : -9223372036854775808 ≤ n) (h1 : n ≤ 9223372036854775807) : bootchainref39_Bit.f k n (Int.tmod (i : Int) 16) = some (bitOf n (i % 16)) := by
  unfold bootchainref39_Bit.f
  have e : Int.tmod (i : Int) 16 = ((i % 16 : Nat) : Int) := rfl
  rw [e]
  exact ref_bit_loop (i % 16) n 0 (i % 16) k (by omega) (by omega) (by omega) h0 h1
theorem ref_loop (c : S31) (h0 : -9223372036854775808 ≤ c.f4) (h1 : c.f4 ≤ 9223372036854775807) : ∀ (d j n k : Nat), j + d = n → n ≤ 65536 → d + 20 < k →
    bootchainref39_Faults.l0 k (n : Int) (partL c j d) (j : Int) c.f0 c.f1 c.f2 c.f3 c.f4 = some (faultsL c n)
  | d, j, n, 0, _, _, hk => by omega
  | 0, j, n, k + 1, hj, hn, hk => by
    obtain rfl : j = n := by omega
    rw [bootchainref39_Faults.l0, if_neg (by omega)]
    simp [partL, faultsL]
  | d + 1, j, n, k + 1, hj, hn, hk => by
    have ih := ref_loop c h0 h1 d (j + 1) n k (by omega) hn (by omega)
    rw [bootchainref39_Faults.l0, if_pos (by omega), ref_bit_eq _ _ _ (by omega) h0 h1, Option.bind_some, if_pos (by omega), if_pos (by rw [partL_len]; omega), Int.toNat_natCast, partL_at, Option.bind_some, wrap_small _ (by omega) (by omega), show ((j : Int) + 1) = ((j + 1 : Nat) : Int) from rfl]
    by_cases hc : (j : Int) = c.f2
    · rw [if_pos hc, set_at, Option.bind_some]
      simp only [List.set_set, set_at]
      rw [← ih, ← partL_put]
      have : faultAt c j = ⟨true, c.f3, bitOf c.f4 (j % 16)⟩ := by unfold faultAt; rw [beq_iff_eq.2 hc, if_pos hc]
      rw [this]
    · rw [if_neg hc, ← ih, ← partL_put]
      have : faultAt c j = ⟨false, 0, bitOf c.f4 (j % 16)⟩ := by unfold faultAt; rw [beq_eq_false_iff_ne.2 hc, if_neg hc]
      rw [this]
      rfl
theorem ref_faults_eq (c : S31) (n : Int) (k : Nat) (hn : n ≤ 100) (hk : 200 ≤ k) (h0 : -9223372036854775808 ≤ c.f4) (h1 : c.f4 ≤ 9223372036854775807) : bootchainref39_Faults.f k c.f0 c.f1 c.f2 c.f3 c.f4 n = some (if n < 0 then [] else faultsL c n.toNat) := by
  obtain ⟨k, rfl⟩ : ∃ m, k = m + 1 := ⟨k - 1, by omega⟩
  unfold bootchainref39_Faults.f
  by_cases hneg : n < 0
  · rw [if_pos hneg, if_pos hneg, bootchainref39_Faults.j0, if_pos rfl]
  · obtain ⟨m, rfl⟩ : ∃ m : Nat, n = (m : Int) := ⟨n.toNat, by omega⟩
    rw [if_neg hneg, if_neg hneg, bootchainref39_Faults.j0, decide_eq_false (by omega : ¬ (m : Int) > 65536), if_neg (by simp), if_pos (by omega), Int.toNat_natCast, if_pos (by omega)]
    exact ref_loop c h0 h1 m 0 m k (by omega) (by omega) (by omega)
theorem same_faults (l : List S42) : ∀ (d j k : Nat), j + d = l.length → l.length ≤ 100000 → d < k → bootchainref39_SameFaults.l0 k l l (j : Int) = some true
  | d, j, 0, _, _, hk => by omega
  | 0, j, k + 1, hj, hl, hk => by rw [bootchainref39_SameFaults.l0, if_neg (by omega)]
  | d + 1, j, k + 1, hj, hl, hk => by
    have ih := same_faults l d (j + 1) k (by omega) hl (by omega)
    rw [bootchainref39_SameFaults.l0, if_pos (by omega), if_pos (by omega), if_pos (by omega), if_neg (by simp), wrap_small _ (by omega) (by omega)]
    exact ih
theorem same_faults_eq (l : List S42) (k : Nat) (hl : l.length ≤ 100000) (hk : l.length < k) : bootchainref39_SameFaults.f k l l = some true := by
  unfold bootchainref39_SameFaults.f
  rw [if_pos rfl]
  exact same_faults l l.length 0 k (by omega) hl hk
end Go.Proofs.YtinmehodkeofaaaDoor.Q
