/- Plain laws of the script chapter: the words, the numbers and the commands that the reference reads. -/
import Derived.Test.YtinmehodkeofaaaDoorLText
import Derived.Test.YtinmehodkeofaaaDoorQx5
import Derived.Test.YtinmehodkeofaaaDoorQx8
import Derived.Test.YtinmehodkeofaaaDoorQx9
namespace Go.Proofs.YtinmehodkeofaaaDoor.Q
open Go.RowKit Go.Proofs.YtinmehodkeofaaaDoorW.PrintWords
set_option linter.unusedVariables false
set_option linter.unusedSimpArgs false

theorem B_toList (l : List UInt8) : (B l).toList = l := by simp [B]
theorem B_empty : (⟨#[]⟩ : ByteArray) = B [] := rfl
theorem bt_B (l : List UInt8) (i : Nat) (c : UInt8) (h : l[i]? = some c) : bt (B l) (i : Int) = (c.toNat : Int) := by
  obtain ⟨hi, rfl⟩ := List.getElem?_eq_some_iff.1 h
  have hs : (i : Int).toNat < (B l).size := by rw [B_size, Int.toNat_natCast]; exact hi
  rw [← bt_at (B l) (i : Int) hs]
  rfl
theorem B_extract (l : List UInt8) (i : Nat) (c : UInt8) (h : l[i]? = some c) : (B l).extract (i : Int).toNat ((i + 1 : Nat) : Int).toNat = B [c] := by
  obtain ⟨hi, rfl⟩ := List.getElem?_eq_some_iff.1 h
  rw [Int.toNat_natCast, Int.toNat_natCast]
  apply ByteArray.ext
  apply Array.ext
  · simp [B, ByteArray.data_extract]
    omega
  · intro j h1 h2
    have : j = 0 := by
      have h3 : j < 1 := h2
      omega
    subst this
    simp [B, ByteArray.data_extract]
theorem B_append (l : List UInt8) (m : List UInt8) : B l ++ B m = B (l ++ m) := B_app l m
theorem rdB (ws : List (List UInt8)) (i : Nat) : rdOf ByteArray.empty (ws.map B) (i : Int) = B (ws.getD i []) := by
  unfold rdOf
  rw [Int.toNat_natCast, List.getD_eq_getElem?_getD, List.getD_eq_getElem?_getD, List.getElem?_map]
  cases ws[i]? <;> rfl
theorem w64 (n : Nat) (h : n < 1000000000000) : wrap64 ((n : Int) + 1) = ((n + 1 : Nat) : Int) := by unfold wrap64; omega

/-! ### words -/
theorem words_loop (l : List UInt8) (hl : l.length ≤ 100000) : ∀ (d i k : Nat) (acc : List (List UInt8)) (cur : List UInt8), i + d = l.length → 2 * d + 4 ≤ k → acc.length ≤ i → cur.length ≤ i →
    bootchainref39_words.l0 k (B l) (acc.map B) (B cur) (i : Int) = some ((acc ++ wordsGo cur (l.drop i)).map B)
  | d, i, 0, _, _, _, hk, _, _ => by omega
  | d, i, 1, _, _, _, hk, _, _ => by omega
  | 0, i, k + 2, acc, cur, hi, hk, ha, hc => by
    have hz : (B l).size = l.length := B_size l
    obtain ⟨k, rfl⟩ : ∃ m, k = m + 1 := ⟨k - 1, by omega⟩
    have hend : ∀ (a : List ByteArray), bootchainref39_words.l0 (k + 1) (B l) a (B []) ((i + 1 : Nat) : Int) = some a := fun a => by
      rw [bootchainref39_words.l0, if_neg (by rw [hz]; omega)]
    rw [bootchainref39_words.l0, if_pos (by rw [hz]; omega), if_pos (by rw [hz]; omega), bootchainref39_words.j1, if_pos rfl, B_toList, w64 i (by omega), List.drop_eq_nil_of_le (by omega), wordsGo, B_empty]
    by_cases h : cur = []
    · rw [if_pos h, if_pos h, hend, List.append_nil]
    · rw [if_neg h, if_neg h, if_pos (by rw [List.length_map]; omega), hend]
      simp
  | d + 1, i, k + 2, acc, cur, hi, hk, ha, hc => by
    have hz : (B l).size = l.length := B_size l
    obtain ⟨c, hcc⟩ : ∃ c, l[i]? = some c := ⟨_, List.getElem?_eq_getElem (by omega)⟩
    have hm : mn (i : Int) (wrap64 (((B l).size : Int) - 1)) = (i : Int) := by
      rw [hz]
      have : wrap64 ((l.length : Int) - 1) = (l.length : Int) - 1 := by unfold wrap64; omega
      rw [this]
      unfold mn
      split <;> omega
    have hd : l.drop i = c :: l.drop (i + 1) := by
      obtain ⟨h1, rfl⟩ := List.getElem?_eq_some_iff.1 hcc
      exact List.drop_eq_getElem_cons h1
    have ih := fun (a : List (List UInt8)) (u : List UInt8) h1 h2 => words_loop l hl d (i + 1) k a u (by omega) (by omega) h1 h2
    have key : ∀ b : Bool, b = isSep c → bootchainref39_words.j1 (k + 1) (B l) (acc.map B) (B cur) (i : Int) b = some ((acc ++ wordsGo cur (l.drop i)).map B) := by
      rintro b rfl
      rw [hd, wordsGo, bootchainref39_words.j1, B_toList, w64 i (by omega)]
      by_cases hs : isSep c = true
      · rw [if_pos hs, if_pos hs, B_empty]
        by_cases h : cur = []
        · rw [if_pos h, if_pos h]
          exact ih acc [] (by omega) (by simp)
        · rw [if_neg h, if_neg h, if_pos (by rw [List.length_map]; omega)]
          have := ih (acc ++ [cur]) [] (by simp; omega) (by simp)
          rw [List.map_append] at this
          rw [show List.map B acc ++ [B cur] = List.map B acc ++ List.map B [cur] from rfl, this]
          simp
      · rw [if_neg hs, if_neg hs, if_pos (by omega), if_pos (by omega), if_pos (by rw [hz]; omega), B_extract l i c hcc, if_pos (by rw [B_size, B_size]; simp; omega), B_app]
        exact ih acc (cur ++ [c]) (by omega) (by simp; omega)
    rw [bootchainref39_words.l0, if_pos (by rw [hz]; omega), if_neg (by rw [hz]; omega), hm, if_pos (by omega), if_pos (by rw [hz]; omega), bt_B l i c hcc]
    by_cases h32 : (c.toNat : Int) = 32
    · rw [if_pos h32]
      refine key true ?_
      have : c = 32 := UInt8.toNat_inj.1 (by show c.toNat = 32; omega)
      rw [this]
      rfl
    · rw [if_neg h32]
      refine key _ ?_
      have e1 : (c == 32) = false := by
        rw [beq_eq_false_iff_ne]
        rintro rfl
        exact h32 rfl
      unfold isSep
      rw [e1, Bool.false_or]
      by_cases h9 : c = 9
      · rw [h9]
        rfl
      · rw [beq_eq_false_iff_ne.2 h9, beq_eq_false_iff_ne]
        intro e
        exact h9 (UInt8.toNat_inj.1 (by show c.toNat = 9; omega))
theorem words_eq (l : List UInt8) (hl : l.length ≤ 100000) (k : Nat) (hk : 2 * l.length + 4 ≤ k) : bootchainref39_words.f k (B l) = some ((wordsOf l).map B) := by
  have key : bootchainref39_words.l0 k (B l) ([].map B) (B []) ((0 : Nat) : Int) = some (([] ++ wordsGo [] (l.drop 0)).map B) := words_loop l hl l.length 0 k [] [] (by omega) hk (by simp) (by simp)
  exact key

theorem wordsGo_len : ∀ (l w : List UInt8), (wordsGo w l).length ≤ l.length + 1
  | [], w => by
    unfold wordsGo
    split <;> simp
  | c :: l, w => by
    unfold wordsGo
    have h1 := wordsGo_len l []
    have h2 := wordsGo_len l (w ++ [c])
    split
    · split
      · rw [List.length_cons]; omega
      · rw [List.length_cons, List.length_cons]; omega
    · rw [List.length_cons]; omega
theorem words_len (l : List UInt8) : (wordsOf l).length ≤ l.length + 1 := wordsGo_len l []

/-! ### number -/
theorem val_bound : ∀ l : List UInt8, Digits l → val l < 10 ^ l.length := by
  refine snocRec ?_ ?_
  · intro _
    decide
  · intro l c ih h
    have h1 := ih (fun x hx => h x (List.mem_append_left _ hx))
    have h2 := h c (by simp)
    rw [val_snoc, List.length_append, List.length_singleton, Nat.pow_succ]
    omega
def numZ (w : List UInt8) (most : Int) : Int := match num w most with | some v => v | none => -1
theorem digit_step (v c : Nat) (hv : v < 10000) (h0 : 48 ≤ c) (h1 : c ≤ 57) : wrap64 (wrap64 (wrap64 (10 * (v : Int)) + wrap64 (c : Int)) - 48) = ((10 * v + (c - 48) : Nat) : Int) := by
  have a1 : wrap64 (10 * (v : Int)) = 10 * (v : Int) := by unfold wrap64; omega
  have a2 : wrap64 (c : Int) = (c : Int) := by unfold wrap64; omega
  rw [a1, a2]
  have a3 : wrap64 (10 * (v : Int) + (c : Int)) = 10 * (v : Int) + (c : Int) := by unfold wrap64; omega
  rw [a3]
  unfold wrap64
  omega
theorem number_loop (w : List UInt8) (hw : w.length ≤ 5) (most : Int) : ∀ (d i k : Nat), i + d = w.length → d < k → Digits (w.take i) →
    bootchainref39_number.l0 k (B w) most (val (w.take i) : Int) (i : Int) = some (if w.all isDigit = true then (if (val w : Int) > most then -1 else (val w : Int)) else -1)
  | d, i, 0, _, hk, _ => by omega
  | 0, i, k + 1, hi, hk, hD => by
    have ht : w.take i = w := List.take_of_length_le (by omega)
    rw [ht] at hD ⊢
    rw [bootchainref39_number.l0, if_neg (by rw [B_size]; omega), if_pos ((digits_iff w).2 hD)]
    split <;> rfl
  | d + 1, i, k + 1, hi, hk, hD => by
    obtain ⟨c, hc⟩ : ∃ c, w[i]? = some c := ⟨_, List.getElem?_eq_getElem (by omega)⟩
    have hm : c ∈ w := List.mem_of_getElem? hc
    have ht : w.take (i + 1) = w.take i ++ [c] := by rw [List.take_add_one, hc]; rfl
    rw [bootchainref39_number.l0, if_pos (by rw [B_size]; omega), if_pos (by omega), bt_B w i c hc]
    by_cases h1 : (c.toNat : Int) < 48
    · rw [if_pos h1, if_neg (fun hd => by have := (digits_iff w).1 hd c hm; omega)]
    · rw [if_neg h1]
      by_cases h2 : (c.toNat : Int) > 57
      · rw [if_pos h2, if_neg (fun hd => by have := (digits_iff w).1 hd c hm; omega)]
      · rw [if_neg h2]
        have hD' : Digits (w.take (i + 1)) := by
          rw [ht]
          intro x hx
          rcases List.mem_append.1 hx with hx | hx
          · exact hD x hx
          · rw [List.mem_singleton.1 hx]
            omega
        have hb := val_bound (w.take i) hD
        have hlen : (w.take i).length ≤ 4 := by rw [List.length_take]; omega
        have hb4 : val (w.take i) < 10000 := Nat.lt_of_lt_of_le hb (Nat.pow_le_pow_right (n := 10) (by decide) hlen)
        have hv : wrap64 (wrap64 (wrap64 (10 * (val (w.take i) : Int)) + wrap64 (c.toNat : Int)) - 48) = ((val (w.take (i + 1)) : Nat) : Int) := by
          rw [ht, val_snoc]
          exact digit_step _ _ hb4 (by omega) (by omega)
        rw [hv, w64 i (by omega)]
        exact number_loop w hw most d (i + 1) k (by omega) (by omega) hD'
theorem number_eq (w : List UInt8) (most : Int) (k : Nat) (hk : 10 ≤ k) : bootchainref39_number.f k (B w) most = some (numZ w most) := by
  obtain ⟨k, rfl⟩ : ∃ m, k = m + 1 := ⟨k - 1, by omega⟩
  have hz : (B w).size = w.length := B_size w
  have hbad : ∀ b : Bool, b = true → num w most = none → bootchainref39_number.j0 (k + 1) (B w) most b = some (numZ w most) := by
    rintro b rfl h
    rw [bootchainref39_number.j0, if_pos rfl]
    unfold numZ
    rw [h]
  unfold bootchainref39_number.f
  by_cases h1 : (w.length : Int) < 1
  · rw [if_pos (by rw [hz]; exact h1)]
    refine hbad true rfl ?_
    unfold num
    rw [if_neg]
    omega
  · rw [if_neg (by rw [hz]; exact h1)]
    by_cases h5 : (w.length : Int) > 5
    · rw [if_pos (by rw [hz]; exact h5)]
      refine hbad true rfl ?_
      unfold num
      rw [if_neg]
      omega
    · rw [if_neg (by rw [hz]; exact h5), if_pos (by rw [hz]; omega)]
      obtain ⟨c, hc⟩ : ∃ c, w[0]? = some c := ⟨_, List.getElem?_eq_getElem (by omega)⟩
      have hh : w.head? = some c := by
        cases w with
        | nil => simp at hc
        | cons a r => simpa using hc
      have hgood : (w.head? = some 48 → w.length = 1) → ∀ b : Bool, b = false → bootchainref39_number.j0 (k + 1) (B w) most b = some (numZ w most) := by
        rintro hz1 b rfl
        rw [bootchainref39_number.j0, if_neg (by decide)]
        have key : bootchainref39_number.l0 k (B w) most (val (w.take 0) : Int) ((0 : Nat) : Int) = _ := number_loop w (by omega) most w.length 0 k (by omega) (by omega) (fun x hx => by simp at hx)
        refine key.trans ?_
        congr 1
        unfold numZ num
        by_cases hD : w.all isDigit = true
        · rw [if_pos hD]
          by_cases hv : (val w : Int) > most
          · rw [if_pos hv, if_neg (fun h => by have := h.2.2.2.2; omega)]
          · rw [if_neg hv, if_pos ⟨by omega, by omega, hD, hz1, by omega⟩]
        · rw [if_neg hD, if_neg (fun h => hD h.2.2.1)]
      have hbt : bt (B w) 0 = (c.toNat : Int) := bt_B w 0 c hc
      rw [hbt]
      by_cases h48 : (c.toNat : Int) = 48
      · rw [if_pos h48]
        have hc48 : c = 48 := UInt8.toNat_inj.1 (by show c.toNat = 48; omega)
        by_cases hl : (w.length : Int) > 1
        · refine hbad _ (by rw [hz]; exact decide_eq_true hl) ?_
          unfold num
          rw [if_neg]
          intro h
          have := h.2.2.2.1 (by rw [hh, hc48])
          omega
        · exact hgood (fun _ => by omega) _ (by rw [hz]; exact decide_eq_false hl)
      · rw [if_neg h48]
        refine hgood (fun h => ?_) _ rfl
        rw [hh] at h
        exact absurd (by rw [Option.some.inj h]; rfl) h48
end Go.Proofs.YtinmehodkeofaaaDoor.Q
