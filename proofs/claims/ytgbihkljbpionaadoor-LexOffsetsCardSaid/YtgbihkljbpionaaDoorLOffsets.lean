/- The plain law of LexOffsets: the tokens lie where they say, apart, and all else is blank. -/
import Derived.Test.YtgbihkljbpionaaDoorEPure3
import Derived.Test.YtgbihkljbpionaaDoorQx13
namespace Go.Proofs.YtgbihkljbpionaaDoor.Q
open Go.RowKit Go.Proofs.YtgbihkljbpionaaDoorW.PrintWords Go.Proofs.YtgbihkljbpionaaDoorW.PrintLast
set_option linter.unusedVariables false
set_option linter.unusedSimpArgs false

theorem rd_at' (l : List S30) (i : Nat) (h : i < l.length) : rd_T30 l (i : Int) = l[i]'h := by
  unfold rd_T30
  rw [Int.toNat_natCast, List.getD_eq_getElem?_getD, List.getElem?_eq_getElem h]
  rfl

theorem blank_cls {c : UInt8} (h : isBlank c = true) : cls c = 4 := by
  obtain ⟨h1, h2⟩ := blank_not h
  exact cls_blank h1 h2 h

theorem off_blanks (a0 : ByteArray) (hl : a0.size ≤ 1500) (ts : List S30) (x6 x7 : Int) (u : Nat) (hu : u ≤ a0.size) (B : Nat) (r : Bool) (hend : ∀ k, B ≤ k → bootchainlaw12_LexOffsets.l1 k a0 true ts x6 x7 (u : Int) (u : Int) = some r) :
    ∀ (d x k : Nat), u - x = d → x ≤ u → (∀ i (hi : i < a0.size), x ≤ i → i < u → isBlank (a0[i]'hi) = true) → B + d + 3 ≤ k → bootchainlaw12_LexOffsets.l1 k a0 true ts x6 x7 (u : Int) (x : Int) = some r := by
  intro d
  induction d with
  | zero =>
    intro x k hd hx hall hk
    obtain rfl : x = u := by omega
    exact hend k (by omega)
  | succ d ih =>
    intro x k hd hx hall hk
    obtain ⟨k, rfl⟩ : ∃ m, k = m + 1 := ⟨k - 1, by omega⟩
    have hlt : x < a0.size := by omega
    have hb := hall x hlt (Nat.le_refl _) (by omega)
    simp only [bootchainlaw12_LexOffsets.l1]
    rw [if_pos (by omega), if_pos (by omega), if_pos (by omega), bt_get a0 x hlt]
    unfold bootchainref12_Blank.f
    rw [class_eq k (by omega), blank_cls hb]
    simp only [Option.bind_some]
    rw [if_pos (by rfl), wrap_small _ (by omega) (by omega), show (x : Int) + 1 = ((x + 1 : Nat) : Int) from by omega]
    exact ih (x + 1) k (by omega) (by omega) (fun i hi h1 h2 => hall i hi (by omega) h2) (by omega)

theorem off_loop (a0 : ByteArray) (hl : a0.size ≤ 1500) (ts : List S30) (hts : ts.length ≤ 1500) : ∀ (n i p k : Nat) (suf : List S30), suf.length = n → i + n = ts.length → ts.drop i = suf → p ≤ a0.size → SC (a0.data.toList.drop p) p = some suf → (n + 1) * 2000 ≤ k →
    bootchainlaw12_LexOffsets.l0 k a0 true ts (p : Int) (i : Int) = some true := by
  intro n
  induction n with
  | zero =>
    intro i p k suf hn hi hd hp hS hk
    obtain ⟨k, rfl⟩ : ∃ m, k = m + 2 := ⟨k - 2, by omega⟩
    rcases SC_some hp hS with ⟨h1, h2⟩ | ⟨t, suf', q, h1, _⟩
    · simp only [bootchainlaw12_LexOffsets.l0, bootchainlaw12_LexOffsets.j1]
      rw [if_pos (by omega), if_neg (by omega)]
      refine off_blanks a0 hl ts _ _ a0.size (Nat.le_refl _) 10 true ?_ (a0.size - p) p k rfl hp (fun i hi h1 _ => h2 i hi h1) (by omega)
      intro k hk
      obtain ⟨k, rfl⟩ : ∃ m, k = m + 2 := ⟨k - 2, by omega⟩
      simp only [bootchainlaw12_LexOffsets.l1]
      rw [if_neg (by omega), if_neg (by omega), wrap_small _ (by omega) (by omega)]
      simp only [bootchainlaw12_LexOffsets.l0]
      rw [if_neg (by omega)]
    · rw [h1] at hn
      simp at hn
  | succ n ih =>
    intro i p k suf hn hi hd hp hS hk
    obtain ⟨k, rfl⟩ : ∃ m, k = m + 2 := ⟨k - 2, by omega⟩
    rcases SC_some hp hS with ⟨h1, _⟩ | ⟨t, suf', q, h1, hpq, hbl, h3, hn1, hqn, hf, hS', _⟩
    · rw [h1] at hn
      simp at hn
    · have hlt : i < ts.length := by omega
      have hti : ts[i]'hlt = t ∧ ts.drop (i + 1) = suf' := by
        rw [List.drop_eq_getElem_cons hlt, h1] at hd
        injection hd with e1 e2
        exact ⟨e1, e2⟩
      have hn' : suf'.length = n := by rw [h1] at hn; simpa using hn
      simp only [bootchainlaw12_LexOffsets.l0, bootchainlaw12_LexOffsets.j1]
      rw [if_pos (by omega), if_pos (by omega), if_pos (by omega), rd_at' ts i hlt, hti.1, h3, wrap_small _ (by omega) (by omega)]
      rw [if_neg (by omega), if_neg (by omega), if_neg (by omega)]
      refine off_blanks a0 hl ts _ _ q (by omega) ((n + 1) * 2000 + 10) true ?_ (q - p) p k rfl hpq hbl (by omega)
      intro k hk
      obtain ⟨k, rfl⟩ : ∃ m, k = m + 1 := ⟨k - 1, by omega⟩
      have hk2 : (n + 1) * 2000 ≤ k := by
        generalize (n + 1) * 2000 = z at hk ⊢
        omega
      simp only [bootchainlaw12_LexOffsets.l1]
      rw [if_neg (by omega), if_pos (by omega), if_pos (by omega), if_pos (by omega), rd_at' ts i hlt, hti.1, wrap_small ((q : Int) + _) (by omega) (by omega), wrap_small ((i : Int) + 1) (by omega) (by omega)]
      rw [if_pos (by omega), if_pos (by omega)]
      rw [show (q : Int) + (t.f1.size : Int) = ((q + t.f1.size : Nat) : Int) from by omega, extract_nat a0 q t.f1.size, ← hf]
      rw [if_pos rfl, show (i : Int) + 1 = ((i + 1 : Nat) : Int) from by omega]
      exact ih (i + 1) (q + t.f1.size) k suf' hn' (by omega) hti.2 hqn hS' hk2

/-- THE PLAIN LAW. -/
theorem pure_offsets (a0 : ByteArray) : ∃ k, bootchainlaw12_LexOffsets.f k a0 = some true := by
  refine ⟨4000000, ?_⟩
  unfold bootchainlaw12_LexOffsets.f
  rw [sanity_ok 4000000 (by omega)]
  simp only [Option.bind_some]
  by_cases h : (a0.size : Int) > 600
  · rw [if_pos h]
  · rw [if_neg h]
    have hlen := toks_len a0
    unfold lex_Tokens.f
    simp only [Option.bind_some]
    rw [toks_eq a0 (by omega)] at hlen ⊢
    cases hS : SC a0.data.toList 0 with
    | none => rfl
    | some l =>
      rw [hS] at hlen
      simp only [] at hlen ⊢
      rw [if_pos (by trivial)]
      exact off_loop a0 (by omega) l (by omega) l.length 0 0 4000000 l rfl (by omega) rfl (by omega) (by rw [List.drop_zero]; exact hS) (by omega)

end Go.Proofs.YtgbihkljbpionaaDoor.Q
