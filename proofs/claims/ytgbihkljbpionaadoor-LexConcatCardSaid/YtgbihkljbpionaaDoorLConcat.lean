/- The plain law of LexConcat: the tokens of two texts joined by a blank. -/
import Derived.Test.YtgbihkljbpionaaDoorEPure3
import Derived.Test.YtgbihkljbpionaaDoorQx16
import Derived.Test.YtgbihkljbpionaaDoorEPure2
namespace Go.Proofs.YtgbihkljbpionaaDoor.Q
open Go.RowKit Go.Proofs.YtgbihkljbpionaaDoorW.PrintWords Go.Proofs.YtgbihkljbpionaaDoorW.PrintLast
set_option linter.unusedVariables false
set_option linter.unusedSimpArgs false

theorem rd_at'' (l : List S30) (i : Nat) (h : i < l.length) : rd_T30 l (i : Int) = l[i]'h := by
  unfold rd_T30
  rw [Int.toNat_natCast, List.getD_eq_getElem?_getD, List.getElem?_eq_getElem h]
  rfl

theorem SC_pos : ∀ (n : Nat) (l : List UInt8) (p : Nat) (ts : List S30), l.length ≤ n → SC l p = some ts → ∀ t ∈ ts, (p : Int) ≤ t.f3 ∧ t.f3 ≤ (p + l.length : Nat) := by
  intro n
  induction n with
  | zero =>
    intro l p ts hl h t ht
    obtain rfl : l = [] := List.eq_nil_of_length_eq_zero (by omega)
    rw [SC_nil] at h
    obtain rfl := Option.some.inj h
    simp at ht
  | succ n ih =>
    intro l p ts hl h t ht
    cases l with
    | nil =>
      rw [SC_nil] at h
      obtain rfl := Option.some.inj h
      simp at ht
    | cons c r =>
      rw [List.length_cons] at hl
      by_cases hb : isBlank c = true
      · rw [SC_blank _ _ _ hb] at h
        have := ih r (p + 1) ts (by omega) h t ht
        rw [List.length_cons]
        omega
      · rw [Bool.not_eq_true] at hb
        rw [SC_tok _ _ _ hb] at h
        cases hk : tok (c :: r) p with
        | none => rw [hk] at h; simp at h
        | some u =>
          obtain ⟨h0, h1, h2, _⟩ := tok_spec hk
          rw [hk] at h
          simp only [] at h
          cases hs : SC ((c :: r).drop u.f1.size) (p + u.f1.size) with
          | none => rw [hs] at h; simp at h
          | some us =>
            rw [hs] at h
            simp only [Option.map_some] at h
            obtain rfl := Option.some.inj h
            rcases List.mem_cons.1 ht with rfl | ht
            · rw [h0]
              omega
            · have := ih _ _ us (by rw [List.length_drop, List.length_cons]; omega) hs t ht
              rw [List.length_drop] at this
              omega

theorem SC_len (l : List UInt8) (p : Nat) (ts : List S30) (h : SC l p = some ts) : ts.length ≤ l.length := scan_len _ _ _ _ h

theorem concat_loop (a0 : ByteArray) (ha : a0.size ≤ 600) (ts both : List S30) (hts : ∀ t ∈ ts, 0 ≤ t.f3 ∧ t.f3 ≤ 600) (hl : ts.length ≤ 600) : ∀ (n i k : Nat) (acc : List S30), i + n = ts.length → acc.length ≤ 2000 - n →
    both = acc ++ (ts.drop i).map (moved (a0.size + 1)) → n + 3000 ≤ k → bootchainlaw12_LexConcat.l0 k a0 true ts both 0 acc (i : Int) = some true := by
  intro n
  induction n with
  | zero =>
    intro i k acc hi hac hb hk
    obtain ⟨k, rfl⟩ : ∃ m, k = m + 1 := ⟨k - 1, by omega⟩
    rw [List.drop_eq_nil_of_le (by omega), List.map_nil, List.append_nil] at hb
    subst hb
    simp only [bootchainlaw12_LexConcat.l0]
    rw [if_neg (by omega), if_pos (by trivial), if_pos (by trivial), same_refl both (by omega) k (by omega)]
    rfl
  | succ n ih =>
    intro i k acc hi hac hb hk
    obtain ⟨k, rfl⟩ : ∃ m, k = m + 1 := ⟨k - 1, by omega⟩
    have hlt : i < ts.length := by omega
    have ht := hts (ts[i]'hlt) (List.getElem_mem hlt)
    simp only [bootchainlaw12_LexConcat.l0]
    rw [if_pos (by omega), if_pos (by omega), if_pos (by omega), rd_at'' ts i hlt, wrap_small ((ts[i]'hlt).f3 + (a0.size : Int)) (by omega) (by omega), wrap_small _ (by omega) (by omega), wrap_small _ (by omega) (by omega)]
    rw [show (i : Int) + 1 = ((i + 1 : Nat) : Int) from by omega]
    refine ih (i + 1) k _ (by omega) (by rw [List.length_append]; simp; omega) ?_ (by omega)
    rw [hb, List.drop_eq_getElem_cons hlt, List.map_cons, List.append_assoc]
    congr 1
    show _ = _ :: _
    congr 1
    unfold moved
    congr 1
    omega

theorem concat_main (a0 a1 : ByteArray) (b : UInt8) (hb : isBlank b = true) (h0 : a0.size ≤ 600) (h1 : a1.size ≤ 600) (k : Nat) (hk : 9000 ≤ k) :
    ((lex_Tokens.f a0).bind fun bt190 => ((lex_Tokens.f a1).bind fun bt194 => (((lex_Tokens.f ((a0 ++ ⟨#[b]⟩) ++ a1)).bind fun bt199 => (if bt190.2 = 0 then (bootchainlaw12_LexConcat.j1 k a0 true bt190.1 bt194.1 bt199.1 bt199.2 (bt194.2 != 0)) else (bootchainlaw12_LexConcat.j1 k a0 true bt190.1 bt194.1 bt199.1 bt199.2 true)))))) = some true := by
  obtain ⟨k, rfl⟩ : ∃ m, k = m + 1 := ⟨k - 1, by omega⟩
  unfold lex_Tokens.f
  simp only [Option.bind_some]
  have hsz : ((a0 ++ ⟨#[b]⟩) ++ a1 : ByteArray).size = a0.size + 1 + a1.size := by rw [ByteArray.size_append, ByteArray.size_append]; rfl
  have hd : ((a0 ++ ⟨#[b]⟩) ++ a1 : ByteArray).data.toList = a0.data.toList ++ b :: a1.data.toList := by simp
  have hz0 : a0.data.toList.length = a0.size := (Lib.size_eq a0).symm
  have hz1 : a1.data.toList.length = a1.size := (Lib.size_eq a1).symm
  rw [toks_eq a0 (by omega), toks_eq a1 (by omega), toks_eq _ (by omega), hd, SC_join b _ hb _ _ _ (Nat.le_refl _)]
  have hsh := SC_shift (a0.size + 1) _ a1.data.toList 0 (Nat.le_refl _)
  rw [show 0 + a0.data.toList.length + 1 = 0 + (a0.size + 1) from by omega, hsh]
  cases hS0 : SC a0.data.toList 0 with
  | none =>
    simp only [bootchainlaw12_LexConcat.j1]
    rfl
  | some l =>
    cases hS1 : SC a1.data.toList 0 with
    | none =>
      simp only [bootchainlaw12_LexConcat.j1]
      rfl
    | some m =>
      have hl := SC_len _ _ _ hS0
      have hm := SC_len _ _ _ hS1
      simp only [Option.map_some, bootchainlaw12_LexConcat.j1, Option.bind_some]
      rw [if_pos (by trivial), if_neg (by decide), if_pos (by simp; omega)]
      refine concat_loop a0 h0 m _ ?_ (by omega) m.length 0 k _ (by omega) (by simp; omega) rfl (by omega)
      intro t ht
      have := SC_pos _ _ _ _ (Nat.le_refl _) hS1 t ht
      omega

/-- THE PLAIN LAW. -/
theorem pure_concat (a0 a1 : ByteArray) (a2 : Int) (w2 : (Lit.int .u8 a2).wf = true) : ∃ k, bootchainlaw12_LexConcat.f k a0 a1 a2 = some true := by
  have hr : 0 ≤ a2 := by
    have h2 := w2
    unfold Lit.wf at h2
    rw [Bool.and_eq_true, decide_eq_true_eq] at h2
    exact h2.1
  suffices hs : ∀ k, 9000 ≤ k → bootchainlaw12_LexConcat.f (k + 1) a0 a1 a2 = some true from ⟨9000 + 1, hs 9000 (by omega)⟩
  intro k hk
  unfold bootchainlaw12_LexConcat.f
  rw [sanity_ok (k + 1) (by omega)]
  simp only [Option.bind_some]
  by_cases h : (a0.size : Int) > 600
  · rw [if_pos h]
    simp only [bootchainlaw12_LexConcat.j0]
    rw [if_pos (by trivial)]
  · rw [if_neg h]
    by_cases h1 : (a1.size : Int) > 600
    · rw [decide_eq_true h1]
      simp only [bootchainlaw12_LexConcat.j0]
      rw [if_pos (by trivial)]
    · rw [decide_eq_false h1]
      simp only [bootchainlaw12_LexConcat.j0]
      rw [if_neg (by decide)]
      simp only [Option.bind_some]
      have key : ∀ (b : UInt8), isBlank b = true → rdOf ByteArray.empty ([(⟨#[32]⟩ : ByteArray), (⟨#[9]⟩ : ByteArray), (⟨#[10]⟩ : ByteArray)] : List ByteArray) (Int.tmod a2 3) = ⟨#[b]⟩ → ∀ x : Option Bool, x = ((lex_Tokens.f a0).bind fun bt190 => ((lex_Tokens.f a1).bind fun bt194 => (if 0 ≤ (Int.tmod a2 3) then (if (Int.tmod a2 3) < (([(⟨#[32]⟩ : ByteArray), (⟨#[9]⟩ : ByteArray), (⟨#[10]⟩ : ByteArray)] : List ByteArray).length : Int) then (if a0.size + (rdOf ByteArray.empty ([(⟨#[32]⟩ : ByteArray), (⟨#[9]⟩ : ByteArray), (⟨#[10]⟩ : ByteArray)] : List ByteArray) (Int.tmod a2 3)).size ≤ 9223372036854775807 then (if (a0 ++ (rdOf ByteArray.empty ([(⟨#[32]⟩ : ByteArray), (⟨#[9]⟩ : ByteArray), (⟨#[10]⟩ : ByteArray)] : List ByteArray) (Int.tmod a2 3))).size + a1.size ≤ 9223372036854775807 then ((lex_Tokens.f ((a0 ++ (rdOf ByteArray.empty ([(⟨#[32]⟩ : ByteArray), (⟨#[9]⟩ : ByteArray), (⟨#[10]⟩ : ByteArray)] : List ByteArray) (Int.tmod a2 3))) ++ a1)).bind fun bt199 => (if bt190.2 = 0 then (bootchainlaw12_LexConcat.j1 k a0 true bt190.1 bt194.1 bt199.1 bt199.2 (bt194.2 != 0)) else (bootchainlaw12_LexConcat.j1 k a0 true bt190.1 bt194.1 bt199.1 bt199.2 true))) else (none)) else (none)) else (none)) else (none))))
          → x = some true := by
        intro b hb hrd x hx
        rw [hx, hrd]
        have hm0 : 0 ≤ Int.tmod a2 3 := by rw [Int.tmod_eq_emod_of_nonneg hr]; omega
        have hm3 : Int.tmod a2 3 < 3 := by rw [Int.tmod_eq_emod_of_nonneg hr]; omega
        have e1 : (⟨#[b]⟩ : ByteArray).size = 1 := rfl
        have e2 : (a0 ++ ⟨#[b]⟩ : ByteArray).size = a0.size + 1 := by rw [ByteArray.size_append]; rfl
        rw [e1, e2]
        simp only [if_pos hm0, if_pos (show Int.tmod a2 3 < (([(⟨#[32]⟩ : ByteArray), (⟨#[9]⟩ : ByteArray), (⟨#[10]⟩ : ByteArray)] : List ByteArray).length : Int) from hm3), if_pos (show a0.size + 1 ≤ 9223372036854775807 from by omega), if_pos (show a0.size + 1 + a1.size ≤ 9223372036854775807 from by omega)]
        exact concat_main a0 a1 b hb (by omega) (by omega) k hk
      have hcase : Int.tmod a2 3 = 0 ∨ Int.tmod a2 3 = 1 ∨ Int.tmod a2 3 = 2 := by rw [Int.tmod_eq_emod_of_nonneg hr]; omega
      rcases hcase with e | e | e
      · exact key 32 (by decide) (by rw [e]; rfl) _ rfl
      · exact key 9 (by decide) (by rw [e]; rfl) _ rfl
      · exact key 10 (by decide) (by rw [e]; rfl) _ rfl

end Go.Proofs.YtgbihkljbpionaaDoor.Q
