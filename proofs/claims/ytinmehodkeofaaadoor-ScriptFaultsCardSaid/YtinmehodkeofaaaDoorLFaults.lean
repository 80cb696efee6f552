/- Plain laws of the script chapter: faults. -/
import Derived.Test.YtinmehodkeofaaaDoorLBase
namespace Go.Proofs.YtinmehodkeofaaaDoor.Q
open Go.RowKit Go.Proofs.YtinmehodkeofaaaDoorW.PrintWords
set_option linter.unusedVariables false
set_option linter.unusedSimpArgs false

def bitOf (n : Int) (k : Nat) : Bool := (n / 2 ^ k) % 2 == 1
def faultAt (c : S31) (i : Nat) : S42 := ⟨(i : Int) == c.f2, if (i : Int) = c.f2 then c.f3 else 0, bitOf c.f4 (i % 16)⟩
def faultsL (c : S31) (n : Nat) : List S42 := (List.range n).map (faultAt c)
theorem tmod16 (i : Nat) : Int.tmod (i : Int) 16 = ((i % 16 : Nat) : Int) := rfl
theorem tmod2 (n : Int) : Int.tmod n 2 = 0 ↔ n % 2 = 0 := by
  rw [Int.tmod_eq_emod]
  split <;> omega
theorem prog_bit (n : Int) (i : Nat) : ((Go.bits .and .i64 (shr .i64 n (Int.tmod (i : Int) 16)) 1) == 1) = bitOf n (i % 16) := by
  rw [i64_and1]
  unfold shr bitOf
  rw [tmod16, Int.toNat_natCast, Nat.min_eq_left (by show i % 16 ≤ 64; omega)]
/-- The list while the loop runs. -/
def partL (c : S31) (j d : Nat) : List S42 := (List.range j).map (faultAt c) ++ List.replicate d z42
theorem partL_len (c : S31) (j d : Nat) : (partL c j d).length = j + d := by simp [partL]
theorem partL_at (c : S31) (j d : Nat) : rd_T42 (partL c j (d + 1)) (j : Int) = z42 := by
  unfold rd_T42 partL
  rw [Int.toNat_natCast, List.getD_eq_getElem?_getD, List.getElem?_append_right (by simp)]
  simp
theorem partL_set (c : S31) (j d : Nat) (x : S42) : (partL c j (d + 1)).set j x = (List.range j).map (faultAt c) ++ x :: List.replicate d z42 := by
  unfold partL
  rw [List.set_append_right _ _ (by simp)]
  simp [List.replicate_succ]
theorem partL_put (c : S31) (j d : Nat) : (partL c j (d + 1)).set j (faultAt c j) = partL c (j + 1) d := by
  rw [partL_set]
  unfold partL
  rw [List.range_succ, List.map_append]
  simp
theorem set_at (c : S31) (j d : Nat) (x : S42) : rd_T42 ((partL c j (d + 1)).set j x) (j : Int) = x := by
  rw [partL_set]
  unfold rd_T42
  rw [Int.toNat_natCast, List.getD_eq_getElem?_getD, List.getElem?_append_right (by simp)]
  simp
theorem prog_loop (c : S31) : ∀ (d j n k : Nat), j + d = n → n ≤ 65536 → d < k →
    script_FaultsW.l0 k (partL c j d) (n : Int) (j : Int) c.f0 c.f1 c.f2 c.f3 c.f4 = some (faultsL c n)
  | d, j, n, 0, _, _, hk => by omega
  | 0, j, n, k + 1, hj, hn, hk => by
    obtain rfl : j = n := by omega
    rw [script_FaultsW.l0, if_neg (by omega)]
    simp [partL, faultsL]
  | d + 1, j, n, k + 1, hj, hn, hk => by
    have ih := prog_loop c d (j + 1) n k (by omega) hn (by omega)
    have e16 : 0 ≤ Int.tmod (j : Int) 16 := by rw [tmod16]; omega
    rw [script_FaultsW.l0, if_pos (by omega), if_pos e16, if_pos (by omega), if_pos (by rw [partL_len]; omega), Int.toNat_natCast, partL_at, prog_bit, Option.bind_some, wrap_small _ (by omega) (by omega), show ((j : Int) + 1) = ((j + 1 : Nat) : Int) from rfl]
    by_cases hc : (j : Int) = c.f2
    · rw [if_pos hc, set_at, Option.bind_some]
      simp only [List.set_set, set_at]
      rw [← ih, ← partL_put]
      have : faultAt c j = ⟨true, c.f3, bitOf c.f4 (j % 16)⟩ := by unfold faultAt; rw [beq_iff_eq.2 hc, if_pos hc]
      rw [this]
    · rw [if_neg hc, ← ih, ← partL_put]
      have : faultAt c j = ⟨false, 0, bitOf c.f4 (j % 16)⟩ := by unfold faultAt; rw [beq_eq_false_iff_ne.2 hc, if_neg hc]
      rw [this]
      rfl
theorem faults_eq (c : S31) (n : Int) (hn : n ≤ 65536) : script_Faults.f c.f0 c.f1 c.f2 c.f3 c.f4 n = some (if n < 0 then [] else faultsL c n.toNat) := by
  unfold script_Faults.f
  obtain ⟨K, hK⟩ : ∃ K, K = 65600 := ⟨_, rfl⟩
  rw [← hK]
  unfold script_FaultsW.f
  rw [within_eq, Option.bind_some]
  by_cases h0 : n < 0
  · rw [if_pos h0, decide_eq_false (by omega : ¬ 0 ≤ n), if_neg (by simp)]
  · obtain ⟨m, rfl⟩ : ∃ m : Nat, n = (m : Int) := ⟨n.toNat, by omega⟩
    rw [if_neg h0, decide_eq_true (by omega : (0 : Int) ≤ m), decide_eq_true (by omega : (m : Int) ≤ 65536), Bool.and_self, if_pos rfl, if_pos (by omega), Int.toNat_natCast, if_pos (by omega), Option.bind_some]
    have := prog_loop c m 0 m K (by omega) (by omega) (by omega)
    rw [List.length_replicate]
    exact this
end Go.Proofs.YtinmehodkeofaaaDoor.Q
