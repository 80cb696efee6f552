/- Plain laws of the script chapter: validity, numerals. -/
import Derived.Test.YtinmehodkeofaaaDoorQxS
import Derived.Laws.Bits128
namespace Go.Proofs.YtinmehodkeofaaaDoor.Q
open Go.RowKit Go.Proofs.YtinmehodkeofaaaDoorW.PrintWords
set_option linter.unusedVariables false
set_option linter.unusedSimpArgs false

theorem i64_and1 (n : Int) : Go.bits .and .i64 n 1 = n % 2 := by
  have h1 : (BitVec.ofInt 64 1).toNat = 2 ^ 1 - 1 := by decide
  have key : (BitVec.ofInt 64 n &&& BitVec.ofInt 64 1).toNat = (n % ((2 ^ 64 : Nat) : Int)).toNat % 2 ^ 1 := by
    rw [BitVec.toNat_and, BitVec.toNat_ofInt, h1, Nat.and_two_pow_sub_one_eq_mod]
  show IntKind.i64.wrap ((BitVec.ofInt 64 n &&& BitVec.ofInt 64 1).toNat : Nat) = n % 2
  rw [key, IntKind.wrap_i64]
  omega
theorem wrap_small (n : Int) (h0 : 0 ≤ n) (h1 : n ≤ 9223372036854775806) : wrap64 (n + 1) = n + 1 := by unfold wrap64; omega
theorem rd_get (l : List Int) (i : Nat) (x : Int) (h : l[i]? = some x) : rd l (i : Int) = x := by
  unfold rd
  rw [Int.toNat_natCast, List.getD_eq_getElem?_getD, h]
  rfl
def tailOk (c : S31) : Bool := decide (-1 ≤ c.f2) && decide (c.f2 ≤ 65535) && decide (0 ≤ c.f4) && decide (c.f4 ≤ 65535) && decide (0 ≤ c.f3) && decide (c.f3 ≤ 256) && (decide (0 ≤ c.f2) || c.f3 == 0)
theorem valid_eq (c : S31) : validC c = ((decide (0 ≤ arity c.f0) && ((c.f1.length : Int) == arity c.f0)) && (c.f1.all (fun n => decide (0 ≤ n) && decide (n ≤ 65535)) && tailOk c)) := by
  unfold validC tailOk
  simp only [Bool.and_assoc]
theorem validLoop (c : S31) : ∀ (d j k : Nat), j + d = c.f1.length → c.f1.length ≤ 100000 → d < k →
    script_Valid.l0 k c.f1 (c.f1.length : Int) (j : Int) c.f0 c.f1 c.f2 c.f3 c.f4 = some ((c.f1.drop j).all (fun n => decide (0 ≤ n) && decide (n ≤ 65535)) && tailOk c)
  | d, j, 0, _, _, hk => by omega
  | 0, j, k + 1, hj, hl, hk => by
    rw [script_Valid.l0, if_neg (by omega), List.drop_eq_nil_of_le (by omega)]
    simp only [List.all_nil, Bool.true_and, within_eq, Option.bind_some, tailOk]
    by_cases a1 : -1 ≤ c.f2 <;> by_cases a2 : c.f2 ≤ 65535 <;> by_cases a3 : 0 ≤ c.f4 <;> by_cases a4 : c.f4 ≤ 65535 <;> by_cases a5 : 0 ≤ c.f3 <;> by_cases a6 : c.f3 ≤ 256 <;> by_cases a7 : 0 ≤ c.f2 <;> simp [a1, a2, a3, a4, a5, a6, a7]
  | d + 1, j, k + 1, hj, hl, hk => by
    obtain ⟨x, hx⟩ : ∃ x, c.f1[j]? = some x := ⟨_, List.getElem?_eq_getElem (by omega)⟩
    have ih := validLoop c d (j + 1) k (by omega) hl (by omega)
    rw [script_Valid.l0, if_pos (by omega), if_pos (by omega), if_pos (by omega), rd_get _ _ _ hx, within_eq, Option.bind_some, wrap_small _ (by omega) (by omega)]
    rw [show ((j : Int) + 1) = ((j + 1 : Nat) : Int) from rfl, ih]
    have hd : c.f1.drop j = x :: c.f1.drop (j + 1) := by
      obtain ⟨h1, rfl⟩ := List.getElem?_eq_some_iff.1 hx
      exact List.drop_eq_getElem_cons h1
    rw [hd, List.all_cons]
    cases (decide (0 ≤ x) && decide (x ≤ 65535)) <;> simp
theorem script_valid_eq (c : S31) (k : Nat) (hl : c.f1.length ≤ 100000) (hk : c.f1.length + 2 ≤ k) : script_Valid.f k c.f0 c.f1 c.f2 c.f3 c.f4 = some (validC c) := by
  obtain ⟨k, rfl⟩ : ∃ m, k = m + 1 := ⟨k - 1, by omega⟩
  unfold script_Valid.f
  simp only [script_Arity.f, Option.bind_some]
  rw [valid_eq]
  by_cases h1 : arity c.f0 < 0
  · rw [if_pos h1, script_Valid.j0, if_pos rfl, decide_eq_false (by omega : ¬ 0 ≤ arity c.f0)]
    rfl
  · rw [if_neg h1, script_Valid.j0, decide_eq_true (by omega : 0 ≤ arity c.f0), Bool.true_and]
    by_cases h2 : (c.f1.length : Int) = arity c.f0
    · rw [if_neg (by simp [h2]), beq_iff_eq.2 h2, Bool.true_and]
      have := validLoop c c.f1.length 0 k (by omega) hl (by omega)
      rw [List.drop_zero] at this
      exact this
    · rw [if_pos (by simpa using h2), beq_eq_false_iff_ne.2 h2]
      rfl
end Go.Proofs.YtinmehodkeofaaaDoor.Q
