/- Plain laws of the script chapter: the text that the reference writes is the text that the package writes. -/
import Derived.Test.YtinmehodkeofaaaDoorLText
import Derived.Test.YtinmehodkeofaaaDoorQx16
namespace Go.Proofs.YtinmehodkeofaaaDoor.Q
open Go.RowKit Go.Proofs.YtinmehodkeofaaaDoorW.PrintWords
set_option linter.unusedVariables false
set_option linter.unusedSimpArgs false

def dgt (n : Nat) : List UInt8 := [UInt8.ofNat (48 + n % 10)]
def pre (n : Nat) : List UInt8 := if n < 10 then [] else Lib.decDigits (n / 10)
theorem pre_dgt (n : Nat) : pre n ++ dgt n = Lib.decDigits n := by
  unfold pre dgt
  by_cases h : n < 10
  · rw [if_pos h, Lib.decDigits_one h, Nat.mod_eq_of_lt h]
    rfl
  · rw [if_neg h]
    conv => rhs; rw [Lib.decDigits, dif_neg h]
theorem one_digit (n : Nat) : strOfNums [(wrap64 (48 + Int.tmod (n : Int) 10)) % 256] = B (dgt n) := by
  have h1 : Int.tmod (n : Int) 10 = ((n % 10 : Nat) : Int) := rfl
  have h2 : (wrap64 (48 + ((n % 10 : Nat) : Int))) % 256 = ((48 + n % 10 : Nat) : Int) := by unfold wrap64; omega
  rw [h1, h2]
  show (⟨([UInt8.ofNat (((48 + n % 10 : Nat) : Int)).toNat]).toArray⟩ : ByteArray) = B (dgt n)
  rw [Int.toNat_natCast]
  rfl
theorem dec_loop : ∀ (j n k i : Nat) (s : List UInt8), n < 10 ^ j → j < k → i + j ≤ 20 → s.length ≤ 100 - j →
    j ≤ 20 → n ≤ 1000000 → bootchainref39_Decimal.l0 k (n : Int) (B s) (i : Int) = some (B (pre n ++ s))
  | j, n, 0, i, s, _, hk, _, _, _, _ => by omega
  | 0, n, k + 1, i, s, hn, _, hi, _, _, _ => by
    have : n = 0 := by simpa using hn
    subst this
    rw [bootchainref39_Decimal.l0, if_neg (show ¬ ((0 : Nat) : Int) > 9 by decide)]
    show (if _ then _ else _) = _
    rw [ite_self]
    rfl
  | j + 1, n, k + 1, i, s, hn, hk, hi, hs, hj, hN => by
    rw [bootchainref39_Decimal.l0, if_pos (show (i : Int) < 20 by omega)]
    by_cases h : n < 10
    · rw [if_neg (by omega)]
      unfold pre
      rw [if_pos h]
      rfl
    · have hl : (dgt (n / 10) ++ s).length = s.length + 1 := by rw [List.length_append]; show 1 + s.length = _; omega
      have hn' : n / 10 < 10 ^ j := Nat.div_lt_of_lt_mul (by rw [Nat.mul_comm]; exact hn)
      have ih := dec_loop j (n / 10) k (i + 1) (dgt (n / 10) ++ s) hn' (by clear hn hn'; omega) (by clear hn hn'; omega) (by rw [hl]; clear hn hn'; omega) (by clear hn hn'; omega) (by clear hn hn'; omega)
      clear hn hn'
      have e0 : Int.tdiv (n : Int) 10 = ((n / 10 : Nat) : Int) := rfl
      have e1 : wrap64 (Int.tdiv (n : Int) 10) = ((n / 10 : Nat) : Int) := by rw [e0]; unfold wrap64; omega
      have e2 : wrap64 ((i : Int) + 1) = ((i + 1 : Nat) : Int) := by unfold wrap64; omega
      rw [if_pos (by omega), Option.bind_some, e1, e2, one_digit, if_pos (by rw [B_size, B_size, show (dgt (n / 10)).length = 1 from rfl]; omega), B_app]
      rw [ih]
      rw [← List.append_assoc, pre_dgt]
      unfold pre
      rw [if_neg h]
theorem decimal_eq (v : Int) (k : Nat) (h0 : 0 ≤ v) (h1 : v ≤ 99999) (hk : 7 ≤ k) : bootchainref39_Decimal.f k v = some (B (Lib.itoa v)) := by
  obtain ⟨n, rfl⟩ : ∃ n : Nat, v = (n : Int) := ⟨v.toNat, by omega⟩
  unfold bootchainref39_Decimal.f
  have e5 : (10 : Nat) ^ 5 = 100000 := rfl
  have el : (dgt n).length = 1 := rfl
  have key : bootchainref39_Decimal.l0 k (n : Int) (B (dgt n)) 0 = some (B (pre n ++ dgt n)) := dec_loop 5 n k 0 (dgt n) (by rw [e5]; omega) (by omega) (by omega) (by rw [el]; omega) (by omega) (by omega)
  rw [one_digit, key, pre_dgt, itoa_nat]
theorem name_eq (op : Int) (h0 : 1 ≤ op) (h1 : op ≤ 20) : bootchainref39_Name.f op = some (B (nameAt op.toNat)) := by
  obtain rfl | rfl | rfl | rfl | rfl | rfl | rfl | rfl | rfl | rfl | rfl | rfl | rfl | rfl | rfl | rfl | rfl | rfl | rfl | rfl : op = 1 ∨ op = 2 ∨ op = 3 ∨ op = 4 ∨ op = 5 ∨ op = 6 ∨ op = 7 ∨ op = 8 ∨ op = 9 ∨ op = 10 ∨ op = 11 ∨ op = 12 ∨ op = 13 ∨ op = 14 ∨ op = 15 ∨ op = 16 ∨ op = 17 ∨ op = 18 ∨ op = 19 ∨ op = 20 := by omega
  all_goals rfl
def cutT (c : S31) : List UInt8 := if c.f2 = -1 then [] else [32, 99, 117, 116, 32] ++ Lib.itoa c.f2 ++ [32] ++ Lib.itoa c.f3
def noiseT (c : S31) : List UInt8 := if c.f4 = 0 then [] else [32, 110, 111, 105, 115, 101, 32] ++ Lib.itoa c.f4
def argT (l : List Int) : List UInt8 := l.flatMap fun v => 32 :: Lib.itoa v
theorem line_eq (c : S31) : lineOf c = nameAt c.f0.toNat ++ argT c.f1 ++ cutT c ++ noiseT c ++ [10] := by
  unfold lineOf cmdWords cutT noiseT argT cutW noiseW
  rw [Lib.join_cons]
  unfold Lib.joinTail
  by_cases h1 : c.f2 = -1 <;> by_cases h2 : c.f4 = 0 <;> simp [h1, h2, List.map_map, List.flatMap_def, Function.comp_def]
theorem argT_len : ∀ (l : List Int), (∀ v ∈ l, 0 ≤ v ∧ v ≤ 65535) → (argT l).length ≤ 6 * l.length
  | [], _ => by simp [argT]
  | v :: l, h => by
    have h1 := argT_len l (fun x hx => h x (List.mem_cons_of_mem _ hx))
    have h2 := h v List.mem_cons_self
    have h3 := itoa_len5 v h2.1 (by omega)
    unfold argT at h1 ⊢
    rw [List.flatMap_cons, List.length_append, List.length_cons, List.length_cons]
    omega
theorem cutT_len {c : S31} (h : Ok c) : (cutT c).length ≤ 20 := by
  unfold cutT
  have := h.cut0; have := h.cut1; have := h.bytes0; have := h.bytes1
  split
  · simp
  · have a := itoa_len5 c.f2 (by omega) (by omega)
    have b := itoa_len5 c.f3 (by omega) (by omega)
    simp only [List.length_append, List.length_cons, List.length_nil]
    omega
theorem noiseT_len {c : S31} (h : Ok c) : (noiseT c).length ≤ 12 := by
  unfold noiseT
  have := h.noise0; have := h.noise1
  split
  · simp
  · have a := itoa_len5 c.f4 (by omega) (by omega)
    simp only [List.length_append, List.length_cons, List.length_nil]
    omega
theorem line_len100 {c : S31} (h : Ok c) : (lineOf c).length ≤ 100 := by
  rw [line_eq]
  have := name_len10 _ h.op0 h.op1
  have := argT_len _ h.args
  have := h.len3
  have := cutT_len h
  have := noiseT_len h
  simp only [List.length_append, List.length_cons, List.length_nil]
  omega
theorem text_end (c : S31) (h : Ok c) (l : List S31) (k i j : Nat) (s : List UInt8) (hj : c.f1.length ≤ j) (hi : i < 100000) (hs : s.length ≤ 1000000000) (hk : 7 ≤ k) :
    bootchainref39_Text.l1 (k + 1) l (B s) (i : Int) (j : Int) c.f0 c.f1 c.f2 c.f3 c.f4 = bootchainref39_Text.l0 k l (B (s ++ cutT c ++ noiseT c ++ [10])) ((i + 1 : Nat) : Int) := by
  have h2 := h.cut0; have h3 := h.cut1; have h4 := h.bytes0; have h5 := h.bytes1; have h6 := h.noise0; have h7 := h.noise1
  have ei : wrap64 ((i : Int) + 1) = ((i + 1 : Nat) : Int) := by unfold wrap64; omega
  have l1 : (⟨#[32, 99, 117, 116, 32]⟩ : ByteArray) = B [32, 99, 117, 116, 32] := rfl
  have l2 : (⟨#[32, 110, 111, 105, 115, 101, 32]⟩ : ByteArray) = B [32, 110, 111, 105, 115, 101, 32] := rfl
  have l3 : (⟨#[32]⟩ : ByteArray) = B [32] := rfl
  have l4 : (⟨#[10]⟩ : ByteArray) = B [10] := rfl
  rw [bootchainref39_Text.l1, if_neg (by omega), l1, l2, l3, l4, ei]
  by_cases hc : c.f2 = -1
  · rw [if_neg (show ¬ c.f2 ≥ 0 by omega)]
    unfold cutT
    rw [if_pos hc, List.append_nil]
    by_cases hn : c.f4 = 0
    · rw [if_neg (show ¬ c.f4 > 0 by omega), if_pos (by rw [B_size]; omega), B_app]
      unfold noiseT
      rw [if_pos hn, List.append_nil]
    · have a := itoa_len5 c.f4 (by omega) (by omega)
      rw [if_pos (show c.f4 > 0 by omega), if_pos (by rw [B_size]; omega), decimal_eq c.f4 k (by omega) (by omega) hk, Option.bind_some]
      simp only [B_app]
      rw [if_pos (by simp only [B_size, List.length_append, List.length_cons, List.length_nil]; omega), if_pos (by simp only [B_size, List.length_append, List.length_cons, List.length_nil]; omega)]
      unfold noiseT
      rw [if_neg hn]
      simp only [List.append_assoc]
  · have b := itoa_len5 c.f2 (by omega) (by omega)
    have d := itoa_len5 c.f3 (by omega) (by omega)
    rw [if_pos (show c.f2 ≥ 0 by omega), if_pos (by rw [B_size]; omega), decimal_eq c.f2 k (by omega) (by omega) hk, decimal_eq c.f3 k (by omega) (by omega) hk, Option.bind_some, Option.bind_some]
    unfold cutT
    rw [if_neg hc]
    simp only [B_app]
    rw [if_pos (by simp only [B_size, List.length_append, List.length_cons, List.length_nil]; omega), if_pos (by simp only [B_size, List.length_append, List.length_cons, List.length_nil]; omega), if_pos (by simp only [B_size, List.length_append, List.length_cons, List.length_nil]; omega)]
    by_cases hn : c.f4 = 0
    · rw [if_neg (show ¬ c.f4 > 0 by omega), if_pos (by simp only [B_size, List.length_append, List.length_cons, List.length_nil]; omega)]
      unfold noiseT
      rw [if_pos hn, List.append_nil]
      simp only [List.append_assoc]
    · have a := itoa_len5 c.f4 (by omega) (by omega)
      rw [if_pos (show c.f4 > 0 by omega), if_pos (by simp only [B_size, List.length_append, List.length_cons, List.length_nil]; omega), decimal_eq c.f4 k (by omega) (by omega) hk, Option.bind_some]
      simp only [B_app]
      rw [if_pos (by simp only [B_size, List.length_append, List.length_cons, List.length_nil]; omega), if_pos (by simp only [B_size, List.length_append, List.length_cons, List.length_nil]; omega)]
      unfold noiseT
      rw [if_neg hn]
      simp only [List.append_assoc]
theorem text_args (c : S31) (h : Ok c) (l : List S31) (i : Nat) (hi : i < 100000) : ∀ (d j k : Nat) (s : List UInt8), j + d = c.f1.length → s.length + 6 * d ≤ 1000000000 → 7 ≤ k →
    bootchainref39_Text.l1 (k + d + 1) l (B s) (i : Int) (j : Int) c.f0 c.f1 c.f2 c.f3 c.f4 = bootchainref39_Text.l0 k l (B (s ++ argT (c.f1.drop j) ++ cutT c ++ noiseT c ++ [10])) ((i + 1 : Nat) : Int)
  | 0, j, k, s, hj, hs, hk => by
    rw [List.drop_eq_nil_of_le (by omega)]
    rw [show argT [] = [] from rfl, List.append_nil]
    exact text_end c h l k i j s (by omega) hi (by omega) hk
  | d + 1, j, k, s, hj, hs, hk => by
    obtain ⟨v, hv⟩ : ∃ v, c.f1[j]? = some v := ⟨_, List.getElem?_eq_getElem (by omega)⟩
    have hm := h.args v (List.mem_of_getElem? hv)
    have a := itoa_len5 v hm.1 (by omega)
    have hd : c.f1.drop j = v :: c.f1.drop (j + 1) := by
      obtain ⟨h1, rfl⟩ := List.getElem?_eq_some_iff.1 hv
      exact List.drop_eq_getElem_cons h1
    have ej : wrap64 ((j : Int) + 1) = ((j + 1 : Nat) : Int) := by
      have := h.len3
      unfold wrap64; omega
    have l3 : (⟨#[32]⟩ : ByteArray) = B [32] := rfl
    rw [show k + (d + 1) + 1 = (k + d + 1) + 1 by omega, bootchainref39_Text.l1, if_pos (by omega), if_pos (by rw [B_size]; omega), if_pos (by omega), rd_get _ _ _ hv, decimal_eq v _ hm.1 (by omega) (by omega), Option.bind_some, l3, B_app,
      if_pos (by simp only [B_size, List.length_append, List.length_cons, List.length_nil]; omega), B_app, ej]
    rw [text_args c h l i hi d (j + 1) k _ (by omega) (by simp only [List.length_append, List.length_cons, List.length_nil]; omega) hk, hd]
    congr 2
    simp [argT]
theorem text_loop (l : List S31) (hv : ∀ c ∈ l, Ok c) (hl : l.length ≤ 10000) : ∀ (d i k : Nat) (s : List UInt8), i + d = l.length → s.length ≤ 100 * i → 5 * d + 8 ≤ k →
    bootchainref39_Text.l0 k l (B s) (i : Int) = some (B (s ++ textOf (l.drop i)))
  | 0, i, k, s, hi, hs, hk => by
    obtain ⟨k, rfl⟩ : ∃ m, k = m + 1 := ⟨k - 1, by omega⟩
    rw [bootchainref39_Text.l0, if_neg (by omega), List.drop_eq_nil_of_le (by omega)]
    simp [textOf]
  | d + 1, i, k, s, hi, hs, hk => by
    obtain ⟨c, hc⟩ : ∃ c, l[i]? = some c := ⟨_, List.getElem?_eq_getElem (by omega)⟩
    have h := hv c (List.mem_of_getElem? hc)
    have h3 := h.len3
    have hn := name_len10 _ h.op0 h.op1
    have hd : l.drop i = c :: l.drop (i + 1) := by
      obtain ⟨h1, rfl⟩ := List.getElem?_eq_some_iff.1 hc
      exact List.drop_eq_getElem_cons h1
    have hr : rd_T31 l (i : Int) = c := by
      unfold rd_T31
      rw [Int.toNat_natCast, List.getD_eq_getElem?_getD, hc]
      rfl
    obtain ⟨k, rfl⟩ : ∃ m, k = m + c.f1.length + 2 := ⟨k - c.f1.length - 2, by omega⟩
    rw [show k + c.f1.length + 2 = (k + c.f1.length + 1) + 1 by omega, bootchainref39_Text.l0, if_pos (by omega), if_pos (by omega), hr, name_eq _ h.op0 h.op1, Option.bind_some, if_pos (by simp only [B_size]; omega), B_app]
    have := text_args c h l i (by omega) c.f1.length 0 k (s ++ nameAt c.f0.toNat) (by omega) (by simp only [List.length_append]; omega) (by omega)
    rw [show (0 : Int) = ((0 : Nat) : Int) from rfl, this, List.drop_zero]
    have hL := line_len100 h
    have hll : s ++ nameAt c.f0.toNat ++ argT c.f1 ++ cutT c ++ noiseT c ++ [10] = s ++ lineOf c := by rw [line_eq]; simp only [List.append_assoc]
    rw [hll, text_loop l hv hl d (i + 1) k _ (by omega) (by simp only [List.length_append]; omega) (by omega), hd]
    simp [textOf]
theorem ref_text_eq (l : List S31) (hv : l.all validC = true) (hl : l.length ≤ 10000) (k : Nat) (hk : 5 * l.length + 8 ≤ k) : bootchainref39_Text.f k l = some (B (textOf l)) := by
  unfold bootchainref39_Text.f
  have key : bootchainref39_Text.l0 k l (B []) 0 = some (B ([] ++ textOf (l.drop 0))) := text_loop l (fun c hc => Ok.of (List.all_eq_true.1 hv c hc)) hl l.length 0 k [] (by omega) (by simp) hk
  rw [List.nil_append, List.drop_zero] at key
  exact key
end Go.Proofs.YtinmehodkeofaaaDoor.Q
