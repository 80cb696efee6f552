/- The plain law of LexMatches: the reference's Tokens gives the scan's tokens and errors, at every text. -/
import Derived.Test.YtgbihkljbpionaaDoorEPure2
import Derived.Test.YtgbihkljbpionaaDoorQx7
import Derived.Test.YtgbihkljbpionaaDoorQx9
namespace Go.Proofs.YtgbihkljbpionaaDoor.Q
open Go.RowKit Go.Proofs.YtgbihkljbpionaaDoorW.PrintWords Go.Proofs.YtgbihkljbpionaaDoorW.PrintLast
set_option linter.unusedVariables false
set_option linter.unusedSimpArgs false

/-- Which sign stands at the head of a text. -/
theorem find_ops (c : UInt8) (r : List UInt8) : opsL.find? (fun o => o.isPrefixOf (c :: r)) =
    if c = 61 then (if r.head? = some 61 then some [61, 61] else some [61])
    else if c = 38 then (if r.head? = some 38 then some [38, 38] else none)
    else if c = 124 then (if r.head? = some 124 then some [124, 124] else none)
    else if c = 62 then (if r.head? = some 61 then some [62, 61] else none)
    else if c = 123 ∨ c = 125 ∨ c = 40 ∨ c = 41 ∨ c = 59 ∨ c = 43 ∨ c = 45 ∨ c = 42 ∨ c = 60 ∨ c = 33 then some [c] else none := by
  by_cases h1 : c = 61
  · subst h1
    cases r with
    | nil => simp [opsL, List.isPrefixOf]
    | cons d r =>
      by_cases hd : d = 61
      · subst hd; simp [opsL, List.isPrefixOf]
      · simp [opsL, List.isPrefixOf, hd, Ne.symm hd]
  rw [if_neg h1]
  by_cases h2 : c = 38
  · subst h2
    cases r with
    | nil => simp [opsL, List.isPrefixOf]
    | cons d r =>
      by_cases hd : d = 38
      · subst hd; simp [opsL, List.isPrefixOf]
      · simp [opsL, List.isPrefixOf, hd, Ne.symm hd]
  rw [if_neg h2]
  by_cases h3 : c = 124
  · subst h3
    cases r with
    | nil => simp [opsL, List.isPrefixOf]
    | cons d r =>
      by_cases hd : d = 124
      · subst hd; simp [opsL, List.isPrefixOf]
      · simp [opsL, List.isPrefixOf, hd, Ne.symm hd]
  rw [if_neg h3]
  by_cases h4 : c = 62
  · subst h4
    cases r with
    | nil => simp [opsL, List.isPrefixOf]
    | cons d r =>
      by_cases hd : d = 61
      · subst hd; simp [opsL, List.isPrefixOf]
      · simp [opsL, List.isPrefixOf, hd, Ne.symm hd]
  rw [if_neg h4]
  by_cases h5 : c = 123 ∨ c = 125 ∨ c = 40 ∨ c = 41 ∨ c = 59 ∨ c = 43 ∨ c = 45 ∨ c = 42 ∨ c = 60 ∨ c = 33
  · rw [if_pos h5]
    rcases h5 with rfl | rfl | rfl | rfl | rfl | rfl | rfl | rfl | rfl | rfl <;> simp [opsL, List.isPrefixOf]
  · rw [if_neg h5]
    simp only [not_or] at h5
    obtain ⟨a1, a2, a3, a4, a5, a6, a7, a8, a9, a10⟩ := h5
    simp [opsL, List.isPrefixOf, Ne.symm h1, Ne.symm h2, Ne.symm h3, Ne.symm h4, Ne.symm a1, Ne.symm a2, Ne.symm a3, Ne.symm a4, Ne.symm a5, Ne.symm a6, Ne.symm a7, Ne.symm a8, Ne.symm a9, Ne.symm a10]

def signS (s : List UInt8) : Int := match opsL.find? (fun o => o.isPrefixOf s) with
  | some o => (o.length : Int)
  | none => 0

theorem byte_eq (c : UInt8) (n : Nat) (h : n < 256) : ((c.toNat : Int) = (n : Int)) ↔ c = UInt8.ofNat n := by
  constructor
  · intro e
    apply UInt8.toNat_inj.1
    rw [UInt8.toNat_ofNat']
    omega
  · rintro rfl
    rw [UInt8.toNat_ofNat']
    omega

theorem sign_tail (c : UInt8) (r : List UInt8) (two : List UInt8) (h2 : two = (match r with | [] => [] | d :: _ => [c, d])) :
    (if two = ([61, 61] : List UInt8) then (some (2 : Int)) else (if two = ([38, 38] : List UInt8) then (some 2) else (if two = ([124, 124] : List UInt8) then (some 2) else (if two = ([62, 61] : List UInt8) then (some 2) else
      (if ((c.toNat : Int)) = 123 then (some 1) else (if ((c.toNat : Int)) = 125 then (some 1) else (if ((c.toNat : Int)) = 40 then (some 1) else (if ((c.toNat : Int)) = 41 then (some 1) else (if ((c.toNat : Int)) = 59 then (some 1) else (if ((c.toNat : Int)) = 61 then (some 1) else (if ((c.toNat : Int)) = 43 then (some 1) else (if ((c.toNat : Int)) = 45 then (some 1) else (if ((c.toNat : Int)) = 42 then (some 1) else (if ((c.toNat : Int)) = 60 then (some 1) else (if ((c.toNat : Int)) = 33 then (some 1) else (some 0)))))))))))))))) = some (signS (c :: r)) := by
  unfold signS
  rw [find_ops]
  have e123 : ((c.toNat : Int) = 123) ↔ c = 123 := byte_eq c 123 (by omega)
  have e125 : ((c.toNat : Int) = 125) ↔ c = 125 := byte_eq c 125 (by omega)
  have e40 : ((c.toNat : Int) = 40) ↔ c = 40 := byte_eq c 40 (by omega)
  have e41 : ((c.toNat : Int) = 41) ↔ c = 41 := byte_eq c 41 (by omega)
  have e59 : ((c.toNat : Int) = 59) ↔ c = 59 := byte_eq c 59 (by omega)
  have e61 : ((c.toNat : Int) = 61) ↔ c = 61 := byte_eq c 61 (by omega)
  have e43 : ((c.toNat : Int) = 43) ↔ c = 43 := byte_eq c 43 (by omega)
  have e45 : ((c.toNat : Int) = 45) ↔ c = 45 := byte_eq c 45 (by omega)
  have e42 : ((c.toNat : Int) = 42) ↔ c = 42 := byte_eq c 42 (by omega)
  have e60 : ((c.toNat : Int) = 60) ↔ c = 60 := byte_eq c 60 (by omega)
  have e33 : ((c.toNat : Int) = 33) ↔ c = 33 := byte_eq c 33 (by omega)
  simp only [e123, e125, e40, e41, e59, e61, e43, e45, e42, e60, e33]
  clear e123 e125 e40 e41 e59 e61 e43 e45 e42 e60 e33
  subst h2
  have h0 : (([] : List UInt8) = [61, 61]) = False := by simp
  by_cases h1 : c = 61
  · subst h1
    cases r with
    | nil => simp
    | cons d r => by_cases hd : d = 61 <;> simp [hd]
  by_cases h2 : c = 38
  · subst h2
    cases r with
    | nil => simp
    | cons d r => by_cases hd : d = 38 <;> simp [hd]
  by_cases h3 : c = 124
  · subst h3
    cases r with
    | nil => simp
    | cons d r => by_cases hd : d = 124 <;> simp [hd]
  by_cases h4 : c = 62
  · subst h4
    cases r with
    | nil => simp
    | cons d r => by_cases hd : d = 61 <;> simp [hd]
  by_cases h5 : c = 123 ∨ c = 125 ∨ c = 40 ∨ c = 41 ∨ c = 59 ∨ c = 43 ∨ c = 45 ∨ c = 42 ∨ c = 60 ∨ c = 33
  · cases r with
    | nil => rcases h5 with rfl | rfl | rfl | rfl | rfl | rfl | rfl | rfl | rfl | rfl <;> simp
    | cons d r => rcases h5 with rfl | rfl | rfl | rfl | rfl | rfl | rfl | rfl | rfl | rfl <;> simp
  · simp only [not_or] at h5
    obtain ⟨a1, a2, a3, a4, a5, a6, a7, a8, a9, a10⟩ := h5
    cases r with
    | nil => simp [*]
    | cons d r => simp [*]

theorem sign_eq (a0 : ByteArray) (hl : a0.size ≤ 1500) (p : Nat) (hp : p < a0.size) (k : Nat) (hk : 1 ≤ k) : bootchainref12_sign.f k a0 (p : Int) = some (signS (a0.data.toList.drop p)) := by
  obtain ⟨k, rfl⟩ : ∃ m, k = m + 1 := ⟨k - 1, by omega⟩
  unfold bootchainref12_sign.f
  rw [wrap_small _ (by omega) (by omega), drop_cons a0 p hp]
  by_cases h2 : (p : Int) + 2 ≤ (a0.size : Int)
  · rw [if_pos h2, if_pos (by omega), if_pos (by omega)]
    simp only [bootchainref12_sign.j0]
    rw [if_pos (show (0 : Int) ≤ (p : Int) by omega), if_pos (show (p : Int) < (a0.size : Int) by omega), bt_get a0 p hp]
    refine sign_tail _ _ _ ?_
    have hp1 : p + 1 < a0.size := by omega
    rw [ByteArray.toList_eq, Lib.extract_data, drop_cons a0 (p + 1) hp1, drop_cons a0 ((p : Int)).toNat (by omega)]
    have e1 : ((p : Int)).toNat = p := by omega
    have e2 : (((p : Int) + 2)).toNat - ((p : Int)).toNat = 2 := by omega
    rw [e2]
    simp only [e1]
    rw [drop_cons a0 (p + 1) hp1]
    rfl
  · rw [if_neg h2]
    simp only [bootchainref12_sign.j0]
    rw [if_pos (show (0 : Int) ≤ (p : Int) by omega), if_pos (show (p : Int) < (a0.size : Int) by omega), bt_get a0 p hp]
    refine sign_tail _ _ _ ?_
    have : a0.data.toList.drop (p + 1) = [] := List.drop_eq_nil_of_le (by rw [← Lib.size_eq]; omega)
    rw [this, ByteArray.toList_eq]

theorem cls_two (c : UInt8) : cls c = 2 ↔ isDigit c = true := by
  have e1 := letter_iff c
  have e2 := digit_iff c
  unfold cls
  by_cases h1 : isLetter c = true
  · rw [if_pos h1]
    constructor
    · intro h; omega
    · intro h; rw [e1] at h1; rw [e2] at h; omega
  · rw [if_neg h1]
    by_cases h2 : isDigit c = true
    · rw [if_pos h2]; simp [h2]
    · rw [if_neg h2]
      constructor
      · intro h
        split at h
        · omega
        · split at h <;> omega
      · intro h; exact absurd h h2
theorem cls_one (c : UInt8) : cls c = 1 ↔ isLetter c = true := by
  unfold cls
  by_cases h1 : isLetter c = true
  · rw [if_pos h1]; simp [h1]
  · rw [if_neg h1]
    constructor
    · intro h
      split at h
      · omega
      · split at h
        · omega
        · split at h <;> omega
    · intro h; exact absurd h h1
theorem cls_three (c : UInt8) : cls c = 3 ↔ c.toNat = 95 := by
  have e1 := letter_iff c
  have e2 := digit_iff c
  unfold cls
  by_cases h1 : isLetter c = true
  · rw [if_pos h1]
    constructor
    · intro h; omega
    · intro h; rw [e1] at h1; omega
  · rw [if_neg h1]
    by_cases h2 : isDigit c = true
    · rw [if_pos h2]
      constructor
      · intro h; omega
      · intro h; rw [e2] at h2; omega
    · rw [if_neg h2]
      by_cases h3 : c.toNat = 95
      · rw [if_pos h3]; simp [h3]
      · rw [if_neg h3]
        constructor
        · intro h; split at h <;> omega
        · intro h; exact absurd h h3

/-- The inner loop of the reference: to the end of a name. -/
theorem l1_name (a0 : ByteArray) (hl : a0.size ≤ 1500) (ts : List S30) (p e : Nat) (r : List S30 × Int) (B : Nat) (he : e ≤ a0.size) (hJ : ∀ k, B ≤ k → bootchainref12_Tokens.j2 k a0 ts (p : Int) 1 (e : Int) = some r) (hstop : ∀ h : e < a0.size, isWithin (a0[e]'h) = false) :
    ∀ (d x k : Nat), e - x = d → x ≤ e → (∀ i (h : i < a0.size), x ≤ i → i < e → isWithin (a0[i]'h) = true) → B + d + 3 ≤ k → bootchainref12_Tokens.l1 k a0 ts (p : Int) 1 (x : Int) = some r := by
  intro d
  induction d with
  | zero =>
    intro x k hd hx hall hk
    obtain ⟨k, rfl⟩ : ∃ m, k = m + 1 := ⟨k - 1, by omega⟩
    obtain rfl : x = e := by omega
    simp only [bootchainref12_Tokens.l1]
    by_cases hlt : x < a0.size
    · rw [if_pos (by omega), if_pos (by omega), bt_get a0 x hlt, class_eq k (by omega)]
      simp only [Option.bind_some]
      have hs := hstop hlt
      have hw := within_iff (a0[x]'hlt)
      have n2 : cls (a0[x]'hlt) ≠ 2 := fun h => by rw [cls_two] at h; rw [hw.2 (.inr (.inl h))] at hs; cases hs
      have n1 : cls (a0[x]'hlt) ≠ 1 := fun h => by rw [cls_one] at h; rw [hw.2 (.inl h)] at hs; cases hs
      have n3 : cls (a0[x]'hlt) ≠ 3 := fun h => by rw [cls_three] at h; rw [hw.2 (.inr (.inr h))] at hs; cases hs
      rw [if_neg n2, if_pos True.intro, if_neg n1, if_neg n3]
      exact hJ k (by omega)
    · rw [if_neg (by omega)]
      exact hJ k (by omega)
  | succ d ih =>
    intro x k hd hx hall hk
    obtain ⟨k, rfl⟩ : ∃ m, k = m + 1 := ⟨k - 1, by omega⟩
    have hlt : x < a0.size := by omega
    have hin := hall x hlt (Nat.le_refl _) (by omega)
    simp only [bootchainref12_Tokens.l1]
    rw [if_pos (by omega), if_pos (by omega), bt_get a0 x hlt, class_eq k (by omega), wrap_small _ (by omega) (by omega)]
    simp only [Option.bind_some]
    have ih' := ih (x + 1) k (by omega) (by omega) (fun i h h1 h2 => hall i h (by omega) h2) (by omega)
    rw [show ((x + 1 : Nat) : Int) = (x : Int) + 1 from by omega] at ih'
    rcases (within_iff _).1 hin with h | h | h
    · rw [if_neg (by rw [(cls_one _).2 h]; omega), if_pos True.intro, if_pos ((cls_one _).2 h)]
      exact ih'
    · rw [if_pos ((cls_two _).2 h)]
      exact ih'
    · rw [if_neg (by rw [(cls_three _).2 h]; omega), if_pos True.intro, if_neg (by rw [(cls_three _).2 h]; omega), if_pos ((cls_three _).2 h)]
      exact ih'
/-- The inner loop of the reference: to the end of a number. -/
theorem l1_num (a0 : ByteArray) (hl : a0.size ≤ 1500) (ts : List S30) (p e : Nat) (r : List S30 × Int) (B : Nat) (he : e ≤ a0.size) (hJ : ∀ k, B ≤ k → bootchainref12_Tokens.j2 k a0 ts (p : Int) 2 (e : Int) = some r) (hstop : ∀ h : e < a0.size, isDigit (a0[e]'h) = false) :
    ∀ (d x k : Nat), e - x = d → x ≤ e → (∀ i (h : i < a0.size), x ≤ i → i < e → isDigit (a0[i]'h) = true) → B + d + 3 ≤ k → bootchainref12_Tokens.l1 k a0 ts (p : Int) 2 (x : Int) = some r := by
  intro d
  induction d with
  | zero =>
    intro x k hd hx hall hk
    obtain ⟨k, rfl⟩ : ∃ m, k = m + 1 := ⟨k - 1, by omega⟩
    obtain rfl : x = e := by omega
    simp only [bootchainref12_Tokens.l1]
    by_cases hlt : x < a0.size
    · rw [if_pos (by omega), if_pos (by omega), bt_get a0 x hlt, class_eq k (by omega)]
      simp only [Option.bind_some]
      have hs := hstop hlt
      rw [if_neg (fun h => by rw [cls_two] at h; rw [h] at hs; cases hs), if_neg (by omega)]
      exact hJ k (by omega)
    · rw [if_neg (by omega)]
      exact hJ k (by omega)
  | succ d ih =>
    intro x k hd hx hall hk
    obtain ⟨k, rfl⟩ : ∃ m, k = m + 1 := ⟨k - 1, by omega⟩
    have hlt : x < a0.size := by omega
    have hin := hall x hlt (Nat.le_refl _) (by omega)
    simp only [bootchainref12_Tokens.l1]
    rw [if_pos (by omega), if_pos (by omega), bt_get a0 x hlt, class_eq k (by omega), wrap_small _ (by omega) (by omega)]
    simp only [Option.bind_some]
    rw [if_pos ((cls_two _).2 hin)]
    have ih' := ih (x + 1) k (by omega) (by omega) (fun i h h1 h2 => hall i h (by omega) h2) (by omega)
    rw [show ((x + 1 : Nat) : Int) = (x : Int) + 1 from by omega] at ih'
    exact ih'

/-- The value of a number, or -1. -/
def numS (w : List UInt8) : Int := if w.length ≤ 5 ∧ (w.head? ≠ some 48 ∨ w.length = 1) ∧ val w < 65536 then (val w : Int) else -1

theorem val_lt : ∀ (w : List UInt8), Digits w → val w < 10 ^ w.length := by
  refine snocRec ?_ ?_
  · intro _; simp [val]
  · intro l d ih h
    have h1 := ih (fun x hx => h x (by simp [hx]))
    have h2 := h d (by simp)
    rw [val_snoc, List.length_append, List.length_singleton, Nat.pow_succ]
    omega
theorem pow_le5 (n : Nat) (h : n ≤ 5) : 10 ^ n ≤ 100000 := by
  have : n = 0 ∨ n = 1 ∨ n = 2 ∨ n = 3 ∨ n = 4 ∨ n = 5 := by omega
  rcases this with rfl | rfl | rfl | rfl | rfl | rfl <;> decide

theorem num_loop (W : ByteArray) (hD : Digits W.data.toList) (h5 : W.size ≤ 5) : ∀ (d i k : Nat), W.size - i = d → i ≤ W.size → d + 1 ≤ k →
    bootchainref12_number.l0 k W (val (W.data.toList.take i) : Int) (i : Int) = some (if val W.data.toList < 65536 then (val W.data.toList : Int) else -1) := by
  intro d
  induction d with
  | zero =>
    intro i k hd hi hk
    obtain ⟨k, rfl⟩ : ∃ m, k = m + 1 := ⟨k - 1, by omega⟩
    simp only [bootchainref12_number.l0]
    rw [if_neg (by omega), List.take_of_length_le (by rw [← Lib.size_eq]; omega)]
    by_cases hv : val W.data.toList < 65536
    · rw [if_neg (by omega), if_pos hv]
    · rw [if_pos (by omega), if_neg hv]
  | succ d ih =>
    intro i k hd hi hk
    obtain ⟨k, rfl⟩ : ∃ m, k = m + 1 := ⟨k - 1, by omega⟩
    have hlt : i < W.size := by omega
    have ih' := ih (i + 1) k (by omega) (by omega) (by omega)
    have hv1 : val (W.data.toList.take i) < 100000 := by
      have h1 := val_lt (W.data.toList.take i) (fun x hx => hD x (List.mem_of_mem_take hx))
      have h2 := pow_le5 (W.data.toList.take i).length (by rw [List.length_take]; omega)
      omega
    have hd48 := hD (W[i]'hlt) (List.mem_of_getElem? (iter_at W i hlt))
    have ht : W.data.toList.take (i + 1) = W.data.toList.take i ++ [W[i]'hlt] := by
      rw [List.take_add_one, iter_at W i hlt]
      rfl
    rw [ht, val_snoc] at ih'
    simp only [bootchainref12_number.l0]
    rw [if_pos (by omega), if_pos (by omega), bt_get W i hlt]
    rw [wrap_small (10 * _) (by omega) (by omega), wrap_small ((W[i]'hlt).toNat : Int) (by omega) (by omega), wrap_small (_ + _) (by omega) (by omega), wrap_small (_ - 48) (by omega) (by omega), wrap_small ((i : Int) + 1) (by omega) (by omega)]
    rw [show (10 * (val (W.data.toList.take i) : Int) + ((W[i]'hlt).toNat : Int) - 48) = ((10 * val (W.data.toList.take i) + ((W[i]'hlt).toNat - 48) : Nat) : Int) from by omega, show (i : Int) + 1 = ((i + 1 : Nat) : Int) from by omega]
    exact ih'

theorem number_eq (W : ByteArray) (hD : Digits W.data.toList) (hn : W.data.toList ≠ []) (k : Nat) (hk : 10 ≤ k) : bootchainref12_number.f k W = some (numS W.data.toList) := by
  obtain ⟨k, rfl⟩ : ∃ m, k = m + 1 := ⟨k - 1, by omega⟩
  have hpos : 0 < W.size := by
    rw [Lib.size_eq]
    exact List.length_pos_iff.2 hn
  have hh : W.data.toList.head? = some (W[0]'hpos) := by
    rw [List.head?_eq_getElem?, iter_at W 0 hpos]
  have hlen : W.data.toList.length = W.size := (Lib.size_eq W).symm
  unfold bootchainref12_number.f numS
  rw [hh, hlen]
  by_cases h5 : (W.size : Int) > 5
  · rw [if_pos h5]
    simp only [bootchainref12_number.j0]
    rw [if_pos True.intro, if_neg (by omega)]
  · rw [if_neg h5, if_pos (by omega), show ((0 : Int)) = ((0 : Nat) : Int) from rfl, bt_get W 0 hpos]
    have hl := num_loop W hD (by omega) W.size 0 k (by omega) (by omega) (by omega)
    rw [List.take_zero, show val [] = 0 from rfl] at hl
    have e48 : ((((W[0]'hpos).toNat : Int)) = 48) ↔ (W[0]'hpos) = 48 := byte_eq _ 48 (by omega)
    by_cases h48 : (((W[0]'hpos).toNat : Int)) = 48
    · rw [if_pos h48]
      by_cases h1 : W.size = 1
      · have hf : decide ((W.size : Int) > 1) = false := by rw [decide_eq_false_iff_not]; omega
        rw [hf]
        simp only [bootchainref12_number.j0]
        rw [if_neg (by simp)]
        refine hl.trans ?_
        by_cases hv : val W.data.toList < 65536
        · rw [if_pos hv, if_pos ⟨by omega, .inr h1, hv⟩]
        · rw [if_neg hv, if_neg (fun h => hv h.2.2)]
      · have hf : decide ((W.size : Int) > 1) = true := by rw [decide_eq_true_eq]; omega
        rw [hf]
        simp only [bootchainref12_number.j0]
        rw [if_pos True.intro, if_neg]
        rintro ⟨_, h | h, _⟩
        · exact h (by rw [e48.1 h48])
        · exact h1 h
    · rw [if_neg h48]
      simp only [bootchainref12_number.j0]
      rw [if_neg (by simp)]
      refine hl.trans ?_
      by_cases hv : val W.data.toList < 65536
      · rw [if_pos hv, if_pos ⟨by omega, .inl (fun h => h48 (e48.2 (Option.some.inj h))), hv⟩]
      · rw [if_neg hv, if_neg (fun h => hv h.2.2)]

end Go.Proofs.YtgbihkljbpionaaDoor.Q
