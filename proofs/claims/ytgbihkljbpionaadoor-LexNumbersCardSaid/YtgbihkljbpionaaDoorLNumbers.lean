/- The plain law of LexNumbers: every number below 65536 is read as its value from its numeral, and from no other. -/
import Derived.Test.YtgbihkljbpionaaDoorEPure3
import Derived.Test.YtgbihkljbpionaaDoorQx18
import Derived.Test.YtgbihkljbpionaaDoorEPure2
namespace Go.Proofs.YtgbihkljbpionaaDoor.Q
open Go.RowKit Go.Proofs.YtgbihkljbpionaaDoorW.PrintWords Go.Proofs.YtgbihkljbpionaaDoorW.PrintLast
set_option linter.unusedVariables false
set_option linter.unusedSimpArgs false

theorem size_arr (l : List UInt8) : (⟨l.toArray⟩ : ByteArray).size = l.length := by simp [ByteArray.size]
theorem u8_nat (n : Nat) (h : n < 256) : (UInt8.ofNat n).toNat = n := by
  simp
  omega

theorem dec_facts : ∀ N n : Nat, n ≤ N → Digits (Lib.decDigits n) ∧ val (Lib.decDigits n) = n := by
  intro N
  induction N with
  | zero =>
    intro n h
    obtain rfl : n = 0 := by omega
    rw [Lib.decDigits_one (by omega)]
    refine ⟨?_, by decide⟩
    intro c hc
    obtain rfl : c = 48 := by simpa using hc
    decide
  | succ N ih =>
    intro n h
    by_cases h10 : n < 10
    · rw [Lib.decDigits_one h10]
      have e : (UInt8.ofNat (48 + n)).toNat = 48 + n := u8_nat _ (by omega)
      constructor
      · intro c hc
        obtain rfl : c = UInt8.ofNat (48 + n) := by simpa using hc
        omega
      · show 10 * 0 + ((UInt8.ofNat (48 + n)).toNat - 48) = n
        omega
    · obtain ⟨i1, i2⟩ := ih (n / 10) (by omega)
      have e : (UInt8.ofNat (48 + n % 10)).toNat = 48 + n % 10 := u8_nat _ (by omega)
      rw [Lib.decDigits, dif_neg h10]
      constructor
      · intro c hc
        rcases List.mem_append.1 hc with hc | hc
        · exact i1 c hc
        · obtain rfl : c = UInt8.ofNat (48 + n % 10) := by simpa using hc
          omega
      · rw [val_snoc, i2]
        omega

theorem dec_len (n m : Nat) (h : n < 10 ^ (m + 1)) : (Lib.decDigits n).length ≤ m + 1 := by
  rw [Lib.decDigits_length]
  induction m generalizing n with
  | zero =>
    rw [Lib.nDigits, dif_pos (by simpa using h)]
    omega
  | succ m ih =>
    rw [Lib.nDigits]
    by_cases h10 : n < 10
    · rw [dif_pos h10]
      omega
    · rw [dif_neg h10]
      have := ih (n / 10) (by rw [Nat.pow_succ] at h; omega)
      omega

theorem dec_cons (n : Nat) : ∃ c r, Lib.decDigits n = c :: r := by
  have h : 0 < (Lib.decDigits n).length := by
    rw [Lib.decDigits_length, Lib.nDigits]
    split <;> omega
  cases hd : Lib.decDigits n with
  | nil => rw [hd] at h; simp at h
  | cons c r => exact ⟨c, r, rfl⟩

def preD (n : Nat) : List UInt8 := if n < 10 then [] else Lib.decDigits (n / 10)
theorem preD_snoc (n : Nat) : preD n ++ [UInt8.ofNat (48 + n % 10)] = Lib.decDigits n := by
  unfold preD
  by_cases h : n < 10
  · rw [if_pos h, Lib.decDigits_one h, Nat.mod_eq_of_lt h]
    rfl
  · rw [if_neg h]
    conv => rhs; rw [Lib.decDigits, dif_neg h]

theorem byte_str (v : Nat) (h : v < 256) : strOfNums [wrap64 (v : Int) % 256] = ⟨#[UInt8.ofNat v]⟩ := by
  rw [wrap_small _ (by omega) (by omega), show (v : Int) % 256 = (v : Int) from by omega]
  rfl

theorem decimal_l0 : ∀ (m n i k : Nat) (s : ByteArray), n < 10 ^ (m + 1) → i + m < 20 → m < k → s.size + m < 1000 → n < 200000 →
    bootchainlaw12_decimal.l0 k (n : Int) s (i : Int) = some ⟨(preD n ++ s.data.toList).toArray⟩ := by
  intro m
  induction m with
  | zero =>
    intro n i k s hn hi hk hs hb
    obtain ⟨k, rfl⟩ : ∃ j, k = j + 1 := ⟨k - 1, by omega⟩
    simp only [bootchainlaw12_decimal.l0]
    rw [if_pos (by omega), if_neg (by simp at hn; omega)]
    unfold preD
    rw [if_pos (by simpa using hn)]
    rfl
  | succ m ih =>
    intro n i k s hn hi hk hs hb
    obtain ⟨k, rfl⟩ : ∃ j, k = j + 1 := ⟨k - 1, by omega⟩
    simp only [bootchainlaw12_decimal.l0]
    rw [if_pos (by omega)]
    by_cases h10 : n < 10
    · rw [if_neg (by omega)]
      unfold preD
      rw [if_pos h10]
      rfl
    · rw [if_pos (by omega)]
      simp only [Option.bind_some]
      rw [show Int.tdiv (n : Int) 10 = ((n / 10 : Nat) : Int) from by rw [Int.tdiv_eq_ediv_of_nonneg (by omega)]; omega, wrap_small ((n / 10 : Nat) : Int) (by omega) (by omega)]
      rw [show (48 : Int) + Int.tmod ((n / 10 : Nat) : Int) 10 = ((48 + n / 10 % 10 : Nat) : Int) from by rw [Int.tmod_eq_emod_of_nonneg (by omega)]; omega, byte_str _ (by omega), wrap_small ((i : Int) + 1) (by omega) (by omega)]
      have hsz : (⟨#[UInt8.ofNat (48 + n / 10 % 10)]⟩ ++ s : ByteArray).size = 1 + s.size := by rw [ByteArray.size_append]; rfl
      rw [if_pos (by show 1 + s.size ≤ _; omega), show (i : Int) + 1 = ((i + 1 : Nat) : Int) from by omega]
      rw [ih (n / 10) (i + 1) k _ (by rw [Nat.pow_succ] at hn; omega) (by omega) (by omega) (by rw [hsz]; omega) (by omega)]
      have hd : (⟨#[UInt8.ofNat (48 + n / 10 % 10)]⟩ ++ s : ByteArray).data.toList = UInt8.ofNat (48 + n / 10 % 10) :: s.data.toList := by simp
      rw [hd]
      have := preD_snoc (n / 10)
      rw [show preD n = Lib.decDigits (n / 10) from by unfold preD; rw [if_neg h10], ← this]
      simp

theorem decimal_eq (n k : Nat) (hn : n < 200000) (hk : 10 ≤ k) : bootchainlaw12_decimal.f k (n : Int) = some ⟨(Lib.decDigits n).toArray⟩ := by
  unfold bootchainlaw12_decimal.f
  rw [show (48 : Int) + Int.tmod (n : Int) 10 = ((48 + n % 10 : Nat) : Int) from by rw [Int.tmod_eq_emod_of_nonneg (by omega)]; omega, byte_str _ (by omega)]
  have := decimal_l0 5 n 0 k ⟨#[UInt8.ofNat (48 + n % 10)]⟩ (by omega) (by omega) (by omega) (by show 1 + 5 < 1000; omega) hn
  rw [show ((0 : Nat) : Int) = 0 from rfl] at this
  rw [this, ← preD_snoc n]

theorem digit_not_letter {c : UInt8} (h : isDigit c = true) : isLetter c = false := by
  rw [digit_iff] at h
  rw [Bool.eq_false_iff, ne_eq, letter_iff]
  omega
theorem digit_not_blank {c : UInt8} (h : isDigit c = true) : isBlank c = false := by
  rw [digit_iff] at h
  rw [Bool.eq_false_iff, ne_eq, blank_iff]
  omega

theorem tok_digits (c : UInt8) (r : List UInt8) (hD : Digits (c :: r)) (p : Nat) :
    tok (c :: r) p = if ((c :: r).length ≤ 5 ∧ val (c :: r) < 65536 ∧ (c ≠ 48 ∨ r = [])) then some (tk 2 (c :: r) (val (c :: r)) p) else none := by
  have hc : isDigit c = true := (digit_iff c).2 (hD c List.mem_cons_self)
  have hw : (c :: r).takeWhile isDigit = c :: r := takeWhile_self _ _ (fun x hx => (digit_iff x).2 (hD x hx))
  unfold tok
  simp only []
  rw [if_neg (by rw [digit_not_letter hc]; simp), if_pos hc, hw]
  have hok : numOk (c :: r) (c :: r) = true ↔ ((c :: r).length ≤ 5 ∧ val (c :: r) < 65536 ∧ (c ≠ 48 ∨ r = [])) := by
    have hf : follows (c :: r) (c :: r).length = false := by
      unfold follows
      rw [List.getElem?_eq_none (Nat.le_refl _)]
    unfold numOk
    rw [hf]
    simp
  by_cases h : numOk (c :: r) (c :: r) = true
  · rw [if_pos h, if_pos (hok.1 h)]
  · rw [if_neg h, if_neg (fun h' => h (hok.2 h'))]

theorem SC_digits (c : UInt8) (r : List UInt8) (hD : Digits (c :: r)) (p : Nat) :
    SC (c :: r) p = if ((c :: r).length ≤ 5 ∧ val (c :: r) < 65536 ∧ (c ≠ 48 ∨ r = [])) then some [tk 2 (c :: r) (val (c :: r)) p] else none := by
  have hc : isDigit c = true := (digit_iff c).2 (hD c List.mem_cons_self)
  rw [SC_tok _ _ _ (digit_not_blank hc), tok_digits c r hD p]
  by_cases h : ((c :: r).length ≤ 5 ∧ val (c :: r) < 65536 ∧ (c ≠ 48 ∨ r = []))
  · rw [if_pos h, if_pos h]
    simp only []
    rw [show (tk 2 (c :: r) (val (c :: r)) p).f1.size = (c :: r).length from size_arr _, List.drop_length, SC_nil]
    rfl
  · rw [if_neg h, if_neg h]

/-- THE PLAIN LAW. -/
theorem pure_numbers (a0 : Int) (w0 : (Lit.int .u32 a0).wf = true) : ∃ k, bootchainlaw12_LexNumbers.f k a0 = some true := by
  have hr : 0 ≤ a0 := by
    have h2 := w0
    unfold Lit.wf at h2
    rw [Bool.and_eq_true, decide_eq_true_eq] at h2
    exact h2.1
  obtain ⟨A, rfl⟩ : ∃ A : Nat, a0 = (A : Int) := ⟨a0.toNat, by omega⟩
  obtain ⟨x, hx⟩ : ∃ x : Nat, x = A % 200000 := ⟨_, rfl⟩
  have hxb : x < 200000 := by omega
  refine ⟨100, ?_⟩
  unfold bootchainlaw12_LexNumbers.f
  rw [show Int.tmod (A : Int) 200000 = (x : Int) from by rw [Int.tmod_eq_emod_of_nonneg (by omega)]; omega, wrap_small (x : Int) (by omega) (by omega)]
  rw [sanity_ok 100 (by omega), decimal_eq x 100 hxb (by omega)]
  simp only [Option.bind_some]
  unfold lex_Tokens.f
  simp only [Option.bind_some]
  obtain ⟨hD, hv⟩ := dec_facts x x (Nat.le_refl _)
  obtain ⟨c, r, hcr⟩ := dec_cons x
  have hlen := dec_len x 5 (by omega)
  have hz : (⟨(Lib.decDigits x).toArray⟩ : ByteArray).size = (Lib.decDigits x).length := size_arr _
  have hz0 : (⟨#[48]⟩ ++ ⟨(Lib.decDigits x).toArray⟩ : ByteArray).size = 1 + (Lib.decDigits x).length := by rw [ByteArray.size_append, hz]; rfl
  have hd0 : (⟨#[48]⟩ ++ ⟨(Lib.decDigits x).toArray⟩ : ByteArray).data.toList = 48 :: Lib.decDigits x := by simp
  rw [toks_eq _ (by omega), toks_eq _ (by omega), hd0]
  rw [if_pos (by omega)]
  have h0 : SC (48 :: Lib.decDigits x) 0 = none := by
    rw [SC_digits 48 _ (by
      intro d hd
      rcases List.mem_cons.1 hd with rfl | hd
      · decide
      · exact hD d hd)]
    rw [if_neg]
    rintro ⟨_, _, h | h⟩
    · exact h rfl
    · rw [hcr] at h
      simp at h
  rw [h0]
  have hs := SC_digits c r (by rw [← hcr]; exact hD) 0
  rw [← hcr, hv] at hs
  have hs' : SC (⟨(Lib.decDigits x).toArray⟩ : ByteArray).data.toList 0 = _ := hs
  by_cases hb : x ≥ 65536
  · rw [if_neg (by rintro ⟨_, h, _⟩; omega)] at hs'
    rw [hs']
    simp only []
    rw [if_pos (by omega)]
    rfl
  · rw [if_pos] at hs'
    · rw [hs']
      simp only []
      rw [if_neg (by omega), if_pos (by rfl)]
      simp [tk, rd_T30]
    · refine ⟨dec_len x 4 (by omega), by omega, ?_⟩
      by_cases h48 : c = 48
      · right
        have := dec_head x x (Nat.le_refl _) (by rw [hcr, h48]; rfl)
        rw [hcr] at this
        simpa using this
      · exact .inl h48

end Go.Proofs.YtgbihkljbpionaaDoor.Q
