/- Plain laws of the script chapter: the reference's arity and validity. -/
import Derived.Test.YtinmehodkeofaaaDoorLBase
import Derived.Test.YtinmehodkeofaaaDoorQx14
namespace Go.Proofs.YtinmehodkeofaaaDoor.Q
open Go.RowKit Go.Proofs.YtinmehodkeofaaaDoorW.PrintWords
set_option linter.unusedVariables false
set_option linter.unusedSimpArgs false

theorem refArity_eq (k : Nat) (op : Int) : bootchainref39_Arity.f (k + 2) op = some (arity op) := by
  by_cases h : 1 ≤ op ∧ op ≤ 20
  · obtain rfl | rfl | rfl | rfl | rfl | rfl | rfl | rfl | rfl | rfl | rfl | rfl | rfl | rfl | rfl | rfl | rfl | rfl | rfl | rfl : op = 1 ∨ op = 2 ∨ op = 3 ∨ op = 4 ∨ op = 5 ∨ op = 6 ∨ op = 7 ∨ op = 8 ∨ op = 9 ∨ op = 10 ∨ op = 11 ∨ op = 12 ∨ op = 13 ∨ op = 14 ∨ op = 15 ∨ op = 16 ∨ op = 17 ∨ op = 18 ∨ op = 19 ∨ op = 20 := by omega
    all_goals rfl
  · have ha : arity op = -1 := by unfold arity; rw [if_pos (by omega)]
    rw [ha]
    unfold bootchainref39_Arity.f
    rw [if_neg (by omega), if_neg (by omega), if_neg (by omega), if_neg (by omega), if_neg (by omega), if_neg (by omega), if_neg (by omega)]
    have e : ∀ j : Int, 1 ≤ j → j ≤ 20 → (op == j) = false := fun j h1 h2 => by rw [beq_eq_false_iff_ne]; omega
    rw [bootchainref39_Arity.j0, e 20 (by omega) (by omega), if_neg (by simp)]
    rw [if_neg (by omega), if_neg (by omega), if_neg (by omega), if_neg (by omega), if_neg (by omega), if_neg (by omega)]
    rw [bootchainref39_Arity.j1, e 17 (by omega) (by omega), if_neg (by simp)]
    rw [if_neg (by omega), if_neg (by omega), if_neg (by omega), if_neg (by omega), if_neg (by omega)]
theorem refValidLoop (c : S31) (n : Int) (hn : (c.f1.length : Int) = n) : ∀ (d j k : Nat), j + d = c.f1.length → c.f1.length ≤ 100000 → d < k →
    bootchainref39_Valid.l0 k n (j : Int) c.f0 c.f1 c.f2 c.f3 c.f4 = some ((c.f1.drop j).all (fun n => decide (0 ≤ n) && decide (n ≤ 65535)) && tailOk c)
  | d, j, 0, _, _, hk => by omega
  | 0, j, k + 1, hj, hl, hk => by
    rw [bootchainref39_Valid.l0, if_neg (by omega), List.drop_eq_nil_of_le (by omega)]
    simp only [List.all_nil, Bool.true_and, tailOk]
    by_cases a1 : -1 ≤ c.f2
    · by_cases a2 : c.f2 ≤ 65535
      · by_cases a3 : 0 ≤ c.f4
        · by_cases a4 : c.f4 ≤ 65535
          · by_cases a5 : 0 ≤ c.f3
            · by_cases a6 : c.f3 ≤ 256
              · rw [if_neg (by omega), if_neg (by omega), if_neg (by omega), if_neg (by omega), if_neg (by omega), if_neg (by omega)]
                by_cases a7 : 0 ≤ c.f2
                · rw [if_pos a7]; simp [a1, a2, a3, a4, a5, a6, a7]
                · rw [if_neg a7]; simp [a1, a2, a3, a4, a5, a6, a7]
              · rw [if_neg (by omega), if_neg (by omega), if_neg (by omega), if_neg (by omega), if_neg (by omega), if_pos (by omega)]; simp [a6]
            · rw [if_neg (by omega), if_neg (by omega), if_neg (by omega), if_neg (by omega), if_pos (by omega)]; simp [a5]
          · rw [if_neg (by omega), if_neg (by omega), if_neg (by omega), if_pos (by omega)]; simp [a4]
        · rw [if_neg (by omega), if_neg (by omega), if_pos (by omega)]; simp [a3]
      · rw [if_neg (by omega), if_pos (by omega)]; simp [a2]
    · rw [if_pos (by omega)]; simp [a1]
  | d + 1, j, k + 1, hj, hl, hk => by
    obtain ⟨x, hx⟩ : ∃ x, c.f1[j]? = some x := ⟨_, List.getElem?_eq_getElem (by omega)⟩
    have ih := refValidLoop c n hn d (j + 1) k (by omega) hl (by omega)
    rw [bootchainref39_Valid.l0, if_pos (by omega), if_pos (by omega), if_pos (by omega), rd_get _ _ _ hx, wrap_small _ (by omega) (by omega)]
    rw [show ((j : Int) + 1) = ((j + 1 : Nat) : Int) from rfl, ih]
    have hd : c.f1.drop j = x :: c.f1.drop (j + 1) := by
      obtain ⟨h1, rfl⟩ := List.getElem?_eq_some_iff.1 hx
      exact List.drop_eq_getElem_cons h1
    rw [hd, List.all_cons]
    by_cases b1 : x < 0
    · rw [if_pos b1, decide_eq_false (by omega : ¬ 0 ≤ x)]; rfl
    · rw [if_neg b1, decide_eq_true (by omega : 0 ≤ x)]
      by_cases b2 : x > 65535
      · rw [if_pos b2, decide_eq_false (by omega : ¬ x ≤ 65535)]; rfl
      · rw [if_neg b2, decide_eq_true (by omega : x ≤ 65535)]; rfl
theorem ref_valid_eq (c : S31) (k : Nat) (hl : c.f1.length ≤ 100000) (hk : c.f1.length + 4 ≤ k) : bootchainref39_Valid.f k c.f0 c.f1 c.f2 c.f3 c.f4 = some (validC c) := by
  obtain ⟨k, rfl⟩ : ∃ m, k = m + 2 := ⟨k - 2, by omega⟩
  unfold bootchainref39_Valid.f
  rw [refArity_eq, Option.bind_some, valid_eq]
  by_cases h1 : arity c.f0 < 0
  · rw [if_pos h1, bootchainref39_Valid.j0, if_pos rfl, decide_eq_false (by omega : ¬ 0 ≤ arity c.f0)]
    rfl
  · rw [if_neg h1, bootchainref39_Valid.j0, decide_eq_true (by omega : 0 ≤ arity c.f0), Bool.true_and]
    by_cases h2 : (c.f1.length : Int) = arity c.f0
    · rw [if_neg (by simp [h2]), beq_iff_eq.2 h2, Bool.true_and]
      have := refValidLoop c _ h2 c.f1.length 0 (k + 1) (by omega) hl (by omega)
      rw [List.drop_zero] at this
      exact this
    · rw [if_pos (by simpa using h2), beq_eq_false_iff_ne.2 h2]
      rfl
end Go.Proofs.YtinmehodkeofaaaDoor.Q
