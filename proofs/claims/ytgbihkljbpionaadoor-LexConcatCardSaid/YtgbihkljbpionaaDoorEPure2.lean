/- What lex.Show gives; the sanity function answers true. -/
import Derived.Test.YtgbihkljbpionaaDoorEPure
import Derived.Test.YtgbihkljbpionaaDoorQx3
namespace Go.Proofs.YtgbihkljbpionaaDoor.Q
open Go.RowKit Go.Proofs.YtgbihkljbpionaaDoorW.PrintWords Go.Proofs.YtgbihkljbpionaaDoorW.PrintLast
set_option linter.unusedVariables false
set_option linter.unusedSimpArgs false

theorem sane_toks : toks ⟨#[105, 102, 32, 120, 61, 61, 49, 123, 104, 97, 108, 116, 32, 55, 59, 125]⟩ =
    ([tk 1 [105, 102] 0 0, tk 1 [120] 0 3, tk 3 [61, 61] 0 4, tk 2 [49] 1 6, tk 3 [123] 0 7, tk 1 [104, 97, 108, 116] 0 8, tk 2 [55] 7 13, tk 3 [59] 0 14, tk 3 [125] 0 15], 0) := by
  kernel_rfl
theorem sane_toks2 : toks ⟨#[97, 32, 38, 32, 98]⟩ = ([], 3) := by kernel_rfl

/-- The text of a token sequence. -/
def showL (l : List S30) : List UInt8 := Lib.join (l.map (·.f1.data.toList)) [32]

theorem show_loop (l : List S30) (hl : l.length ≤ 1000000) (hs : (showL l).length ≤ 140737488355328) : ∀ (d i k : Nat), l.length - i = d → i ≤ l.length → d < k →
    lex_Show.l0 k ((l.take i).map (·.f1)) l (l.length : Int) (i : Int) = some ⟨(showL l).toArray⟩ := by
  intro d
  induction d with
  | zero =>
    intro i k hd hi hk
    obtain ⟨k, rfl⟩ : ∃ m, k = m + 1 := ⟨k - 1, by omega⟩
    simp only [lex_Show.l0]
    rw [if_neg (by omega), List.take_of_length_le (by omega)]
    unfold strings_Join.f
    have e : ((l.map (·.f1)).map (·.data.toList)) = l.map (·.f1.data.toList) := by rw [List.map_map]; rfl
    rw [e]
    rw [if_pos ⟨hs, by rw [List.length_map]; omega⟩]
    rfl
  | succ d ih =>
    intro i k hd hi hk
    obtain ⟨k, rfl⟩ : ∃ m, k = m + 1 := ⟨k - 1, by omega⟩
    simp only [lex_Show.l0]
    rw [if_pos (by omega), if_pos (by omega), if_pos (by omega), if_pos (by rw [List.length_map, List.length_take]; omega)]
    have hr : rd_T30 l (i : Int) = l[i]'(by omega) := by
      unfold rd_T30
      rw [Int.toNat_natCast, List.getD_eq_getElem?_getD, List.getElem?_eq_getElem (by omega)]
      rfl
    have ht : (l.take i).map (·.f1) ++ [(rd_T30 l (i : Int)).f1] = (l.take (i + 1)).map (·.f1) := by
      rw [hr, List.take_succ_eq_append_getElem (by omega), List.map_append]
      rfl
    rw [ht, wrap_small _ (by omega) (by omega)]
    exact ih (i + 1) k (by omega) (by omega) (by omega)
theorem show_eq (l : List S30) (hl : l.length ≤ 1000000) (hs : (showL l).length ≤ 140737488355328) (k : Nat) (hk : l.length < k) : lex_Show.f k l = some ⟨(showL l).toArray⟩ := by
  unfold lex_Show.f
  exact show_loop l hl hs l.length 0 k (by omega) (by omega) hk

theorem sane_show : showL [tk 1 [105, 102] 0 0, tk 1 [120] 0 3, tk 3 [61, 61] 0 4, tk 2 [49] 1 6, tk 3 [123] 0 7, tk 1 [104, 97, 108, 116] 0 8, tk 2 [55] 7 13, tk 3 [59] 0 14, tk 3 [125] 0 15] =
    [105, 102, 32, 120, 32, 61, 61, 32, 49, 32, 123, 32, 104, 97, 108, 116, 32, 55, 32, 59, 32, 125] := by kernel_rfl

theorem sanity_ok (k : Nat) (hk : 10 ≤ k) : bootchainlaw12_sanity.f k = some true := by
  unfold bootchainlaw12_sanity.f lex_Tokens.f
  rw [sane_toks, sane_toks2]
  simp only [Option.bind_some]
  rw [show_eq _ (by simp) (by rw [sane_show]; simp) k (by simp; omega), sane_show]
  simp only [Option.bind_some, toList_mk, List.length_cons, List.length_nil]
  simp [rd_T30, tk]

end Go.Proofs.YtgbihkljbpionaaDoor.Q
