/- Plain laws for all six statements: the scan step by step; the classes of the reference; the sanity function. -/
import Derived.Test.YtgbihkljbpionaaDoorEScan
import Derived.Test.YtgbihkljbpionaaDoorQx4
namespace Go.Proofs.YtgbihkljbpionaaDoor.Q
open Go.RowKit Go.Proofs.YtgbihkljbpionaaDoorW.PrintWords Go.Proofs.YtgbihkljbpionaaDoorW.PrintLast
set_option linter.unusedVariables false
set_option linter.unusedSimpArgs false

/-- The scan with fuel enough. -/
def SC (l : List UInt8) (p : Nat) : Option (List S30) := scan (l.length + 1) l p

theorem SC_nil (p : Nat) : SC [] p = some [] := by simp [SC, scan]
theorem SC_blank (c : UInt8) (l : List UInt8) (p : Nat) (h : isBlank c = true) : SC (c :: l) p = SC l (p + 1) := by
  unfold SC
  rw [List.length_cons, scan.eq_def (l.length + 1 + 1), scan.eq_def (l.length + 1)]
  have hd : (c :: l).dropWhile isBlank = l.dropWhile isBlank := by simp [List.dropWhile, h]
  have hle := dropWhile_le isBlank l
  simp only [hd]
  by_cases hn : l.dropWhile isBlank = []
  · rw [if_pos hn, if_pos hn]
  · rw [if_neg hn, if_neg hn]
    rw [show p + ((c :: l).length - (l.dropWhile isBlank).length) = p + 1 + (l.length - (l.dropWhile isBlank).length) from by rw [List.length_cons]; omega]
    cases ht : tok (l.dropWhile isBlank) (p + 1 + (l.length - (l.dropWhile isBlank).length)) with
    | none => rfl
    | some t =>
      obtain ⟨_, h1, h2, _⟩ := tok_spec ht
      simp only []
      have hlen : ((l.dropWhile isBlank).drop t.f1.size).length < l.length := by rw [List.length_drop]; omega
      rw [scan_fuel (l.length + 1) _ _ (by omega), scan_fuel l.length _ _ hlen]
theorem SC_tok (c : UInt8) (l : List UInt8) (p : Nat) (h : isBlank c = false) : SC (c :: l) p = match tok (c :: l) p with
    | none => none
    | some t => (SC ((c :: l).drop t.f1.size) (p + t.f1.size)).map (t :: ·) := by
  unfold SC
  rw [scan.eq_def]
  have hd : (c :: l).dropWhile isBlank = c :: l := by simp [List.dropWhile, h]
  simp only [hd, Nat.sub_self, Nat.add_zero]
  rw [if_neg (by simp)]
  cases ht : tok (c :: l) p with
  | none => rfl
  | some t =>
    obtain ⟨_, h1, h2, _⟩ := tok_spec ht
    simp only []
    rw [scan_fuel _ ((c :: l).drop t.f1.size) _ (by rw [List.length_drop]; omega)]

theorem toks_eq (a0 : ByteArray) (h : a0.size ≤ 1500) : toks a0 = match SC a0.data.toList 0 with
    | none => ([], 3)
    | some l => (l, 0) := by
  unfold toks SC
  rw [if_neg (by omega), Lib.size_eq]
  rfl

/-- The reference's class of a byte. -/
def cls (c : UInt8) : Int := if isLetter c = true then 1 else if isDigit c = true then 2 else if c.toNat = 95 then 3 else if isBlank c = true then 4 else 0

theorem blank_iff (c : UInt8) : isBlank c = true ↔ (c.toNat = 32 ∨ c.toNat = 9 ∨ c.toNat = 10) := by
  unfold isBlank
  simp only [List.contains_cons, List.contains_nil, Bool.or_false, Bool.or_eq_true, beq_iff_eq]
  constructor
  · rintro (rfl | rfl | rfl) <;> decide
  · rintro (h | h | h)
    · exact .inl (UInt8.toNat_inj.1 h)
    · exact .inr (.inl (UInt8.toNat_inj.1 h))
    · exact .inr (.inr (UInt8.toNat_inj.1 h))
theorem letter_iff (c : UInt8) : isLetter c = true ↔ ((97 ≤ c.toNat ∧ c.toNat ≤ 122) ∨ (65 ≤ c.toNat ∧ c.toNat ≤ 90)) := by
  unfold isLetter
  simp only [Bool.or_eq_true, Bool.and_eq_true, decide_eq_true_eq]
theorem within_iff (c : UInt8) : isWithin c = true ↔ (isLetter c = true ∨ isDigit c = true ∨ c.toNat = 95) := by
  unfold isWithin
  simp only [Bool.or_eq_true, decide_eq_true_eq, or_assoc]

theorem cls_letter {c : UInt8} (h : isLetter c = true) : cls c = 1 := by unfold cls; rw [if_pos h]
theorem cls_digit {c : UInt8} (hl : isLetter c = false) (h : isDigit c = true) : cls c = 2 := by unfold cls; rw [if_neg (by rw [hl]; simp), if_pos h]
theorem cls_us {c : UInt8} (hl : isLetter c = false) (hd : isDigit c = false) (h : c.toNat = 95) : cls c = 3 := by unfold cls; rw [if_neg (by rw [hl]; simp), if_neg (by rw [hd]; simp), if_pos h]
theorem cls_blank {c : UInt8} (hl : isLetter c = false) (hd : isDigit c = false) (h : isBlank c = true) : cls c = 4 := by
  unfold cls
  have := (blank_iff c).1 h
  rw [if_neg (by rw [hl]; simp), if_neg (by rw [hd]; simp), if_neg (by omega), if_pos h]
theorem cls_other {c : UInt8} (hl : isLetter c = false) (hd : isDigit c = false) (h : c.toNat ≠ 95) (hb : isBlank c = false) : cls c = 0 := by
  unfold cls
  rw [if_neg (by rw [hl]; simp), if_neg (by rw [hd]; simp), if_neg h, if_neg (by rw [hb]; simp)]
theorem blank_not {c : UInt8} (h : isBlank c = true) : isLetter c = false ∧ isDigit c = false := by
  have h1 := (blank_iff c).1 h
  constructor
  · rw [Bool.eq_false_iff, ne_eq, letter_iff]; omega
  · rw [Bool.eq_false_iff, ne_eq, digit_iff]; omega
theorem class_j1 (k : Nat) (c : UInt8) (b : Bool) (hb : b = isDigit c) (hl : isLetter c = false) : bootchainref12_class.j1 (k + 1) (c.toNat : Int) b = some (cls c) := by
  simp only [bootchainref12_class.j1]
  have e3 := blank_iff c
  cases b with
  | true => rw [if_pos rfl, cls_digit hl hb.symm]
  | false =>
    rw [if_neg (by simp)]
    by_cases h95 : c.toNat = 95
    · rw [if_pos (by omega), cls_us hl hb.symm h95]
    · rw [if_neg (by omega)]
      by_cases h9 : c.toNat = 9
      · rw [if_pos (by omega), cls_blank hl hb.symm (e3.2 (by omega))]
      · rw [if_neg (by omega)]
        by_cases h10 : c.toNat = 10
        · rw [if_pos (by omega), cls_blank hl hb.symm (e3.2 (by omega))]
        · rw [if_neg (by omega)]
          by_cases h32 : c.toNat = 32
          · rw [if_pos (by omega), cls_blank hl hb.symm (e3.2 (by omega))]
          · rw [if_neg (by omega), cls_other hl hb.symm h95 (by rw [Bool.eq_false_iff, ne_eq, e3]; omega)]
theorem class_j0 (k : Nat) (c : UInt8) (b : Bool) (hb : b = isLetter c) : bootchainref12_class.j0 (k + 2) (c.toNat : Int) b = some (cls c) := by
  simp only [bootchainref12_class.j0]
  cases b with
  | true =>
    rw [if_pos rfl]
    unfold cls
    rw [if_pos hb.symm]
  | false =>
    rw [if_neg (by simp)]
    have e2 := digit_iff c
    by_cases h48 : (c.toNat : Int) ≥ 48
    · rw [if_pos h48]
      refine class_j1 k c _ ?_ hb.symm
      rw [Bool.eq_iff_iff, e2, decide_eq_true_eq]
      omega
    · rw [if_neg h48]
      refine class_j1 k c _ ?_ hb.symm
      symm
      rw [Bool.eq_false_iff, ne_eq, e2]
      omega
theorem class_eq (k : Nat) (hk : 2 ≤ k) (c : UInt8) : bootchainref12_class.f k (c.toNat : Int) = some (cls c) := by
  obtain ⟨k, rfl⟩ : ∃ m, k = m + 2 := ⟨k - 2, by omega⟩
  unfold bootchainref12_class.f
  have e1 := letter_iff c
  have key : ∀ b : Bool, (b = true ↔ ((97 ≤ c.toNat ∧ c.toNat ≤ 122) ∨ (65 ≤ c.toNat ∧ c.toNat ≤ 90))) → bootchainref12_class.j0 (k + 2) (c.toNat : Int) b = some (cls c) := by
    intro b hb
    refine class_j0 k c b ?_
    rw [Bool.eq_iff_iff, hb, e1]
  by_cases h97 : (c.toNat : Int) ≥ 97
  · rw [if_pos h97]
    by_cases h122 : (c.toNat : Int) ≤ 122
    · rw [if_pos h122]
      exact key _ (by simp; omega)
    · rw [if_neg h122]
      by_cases h65 : (c.toNat : Int) ≥ 65
      · rw [if_pos h65]
        exact key _ (by rw [decide_eq_true_eq]; omega)
      · omega
  · rw [if_neg h97]
    by_cases h65 : (c.toNat : Int) ≥ 65
    · rw [if_pos h65]
      exact key _ (by rw [decide_eq_true_eq]; omega)
    · rw [if_neg h65]
      exact key _ (by simp; omega)

theorem bt_get (a0 : ByteArray) (i : Nat) (h : i < a0.size) : bt a0 (i : Int) = ((a0[i]'h).toNat : Int) := by
  unfold bt
  rw [dif_pos (by simpa using h)]
  simp
theorem drop_cons (a0 : ByteArray) (p : Nat) (h : p < a0.size) : a0.data.toList.drop p = (a0[p]'h) :: a0.data.toList.drop (p + 1) := by
  rw [List.drop_eq_getElem_cons (by simpa using h)]
  rfl
theorem wrap_small (x : Int) (h0 : -9223372036854775808 ≤ x) (h1 : x ≤ 9223372036854775807) : wrap64 x = x := by
  unfold wrap64
  omega

end Go.Proofs.YtgbihkljbpionaaDoor.Q
