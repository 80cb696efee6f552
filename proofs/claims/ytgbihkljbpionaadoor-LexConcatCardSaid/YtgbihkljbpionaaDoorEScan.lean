/- Plain laws of the lexer's scan: its fuel, its tokens, its steps. -/
import Derived.Test.YtgbihkljbpionaaDoorENum2
import Derived.Test.YtgbihkljbpionaaDoorEAt
namespace Go.Proofs.YtgbihkljbpionaaDoor.Q
open Go.RowKit Go.Proofs.YtgbihkljbpionaaDoorW.PrintWords Go.Proofs.YtgbihkljbpionaaDoorW.PrintLast
set_option linter.unusedVariables false
set_option linter.unusedSimpArgs false

theorem dropWhile_le {α : Type} (q : α → Bool) : ∀ l : List α, (l.dropWhile q).length ≤ l.length
  | [] => by simp
  | a :: l => by
    simp only [List.dropWhile]
    split
    · simp only [List.length_cons]; have := dropWhile_le q l; omega
    · simp
theorem dropWhile_drop {α : Type} (q : α → Bool) : ∀ l : List α, l.dropWhile q = l.drop (l.length - (l.dropWhile q).length)
  | [] => by simp
  | a :: l => by
    simp only [List.dropWhile]
    split
    · have h1 := dropWhile_le q l
      have h2 := dropWhile_drop q l
      rw [List.length_cons, show l.length + 1 - (l.dropWhile q).length = (l.length - (l.dropWhile q).length) + 1 from by omega, List.drop_succ_cons]
      exact h2
    · simp
theorem isPrefix_take {o s : List UInt8} (h : o.isPrefixOf s = true) : o.length ≤ s.length ∧ s.take o.length = o := by
  have := List.isPrefixOf_iff_prefix.1 h
  obtain ⟨t, rfl⟩ := this
  simp
theorem ops_len {o : List UInt8} (h : o ∈ opsL) : 1 ≤ o.length := by
  simp only [opsL, List.mem_cons, List.mem_nil_iff, or_false] at h
  rcases h with rfl | rfl | rfl | rfl | rfl | rfl | rfl | rfl | rfl | rfl | rfl | rfl | rfl | rfl | rfl <;> decide

theorem letter_within {c : UInt8} (h : isLetter c = true) : isWithin c = true := by unfold isWithin; rw [h]; rfl
theorem digit_within {c : UInt8} (h : isDigit c = true) : isWithin c = true := by unfold isWithin; rw [h]; simp

/-- What a token is made of. -/
theorem tok_spec {s : List UInt8} {p : Nat} {t : S30} (h : tok s p = some t) : t.f3 = (p : Int) ∧ 1 ≤ t.f1.size ∧ t.f1.size ≤ s.length ∧ t.f1 = ⟨(s.take t.f1.size).toArray⟩ := by
  cases s with
  | nil => simp [tok] at h
  | cons c r =>
    simp only [tok] at h
    by_cases hl : isLetter c = true
    · rw [if_pos hl] at h
      by_cases h12 : ((c :: r).takeWhile isWithin).length ≤ 12
      · rw [if_pos h12] at h
        obtain rfl := Option.some.inj h
        refine ⟨rfl, ?_, ?_, ?_⟩
        · show 1 ≤ ((c :: r).takeWhile isWithin).toArray.size
          simp [List.takeWhile, letter_within hl]
        · have := twLen isWithin (c :: r)
          exact this
        · show (⟨((c :: r).takeWhile isWithin).toArray⟩ : ByteArray) = ⟨((c :: r).take ((c :: r).takeWhile isWithin).length).toArray⟩
          rw [takeWhile_take]
      · rw [if_neg h12] at h
        cases h
    · rw [if_neg hl] at h
      by_cases hd : isDigit c = true
      · rw [if_pos hd] at h
        by_cases hn : numOk (c :: r) ((c :: r).takeWhile isDigit) = true
        · rw [if_pos hn] at h
          obtain rfl := Option.some.inj h
          refine ⟨rfl, ?_, ?_, ?_⟩
          · show 1 ≤ ((c :: r).takeWhile isDigit).toArray.size
            simp [List.takeWhile, hd]
          · have := twLen isDigit (c :: r)
            exact this
          · show (⟨((c :: r).takeWhile isDigit).toArray⟩ : ByteArray) = ⟨((c :: r).take ((c :: r).takeWhile isDigit).length).toArray⟩
            rw [takeWhile_take]
        · rw [if_neg hn] at h
          cases h
      · rw [if_neg hd] at h
        obtain ⟨o, ho, rfl⟩ := Option.map_eq_some_iff.1 h
        have hp := List.find?_some ho
        have hm := List.mem_of_find?_eq_some ho
        obtain ⟨h1, h2⟩ := isPrefix_take hp
        refine ⟨rfl, ops_len hm, h1, ?_⟩
        show (⟨o.toArray⟩ : ByteArray) = ⟨((c :: r).take o.length).toArray⟩
        rw [h2]

theorem scan_fuel : ∀ (k : Nat) (l : List UInt8) (p : Nat), l.length < k → scan k l p = scan (l.length + 1) l p := by
  have key : ∀ (n : Nat) (l : List UInt8), l.length ≤ n → ∀ (k k' p : Nat), l.length < k → l.length < k' → scan k l p = scan k' l p := by
    intro n
    induction n with
    | zero =>
      intro l hl k k' p hk hk'
      obtain rfl : l = [] := List.eq_nil_of_length_eq_zero (by omega)
      obtain ⟨k, rfl⟩ : ∃ m, k = m + 1 := ⟨k - 1, by omega⟩
      obtain ⟨k', rfl⟩ : ∃ m, k' = m + 1 := ⟨k' - 1, by omega⟩
      simp [scan]
    | succ n ih =>
      intro l hl k k' p hk hk'
      obtain ⟨k, rfl⟩ : ∃ m, k = m + 1 := ⟨k - 1, by omega⟩
      obtain ⟨k', rfl⟩ : ∃ m, k' = m + 1 := ⟨k' - 1, by omega⟩
      simp only [scan]
      by_cases hb : l.dropWhile isBlank = []
      · rw [if_pos hb, if_pos hb]
      · rw [if_neg hb, if_neg hb]
        cases ht : tok (l.dropWhile isBlank) (p + (l.length - (l.dropWhile isBlank).length)) with
        | none => rfl
        | some t =>
          obtain ⟨_, h1, h2, _⟩ := tok_spec ht
          have hd := dropWhile_le isBlank l
          have hlen : ((l.dropWhile isBlank).drop t.f1.size).length ≤ n := by rw [List.length_drop]; omega
          show Option.map _ _ = Option.map _ _
          rw [ih _ hlen k k' _ (by rw [List.length_drop]; omega) (by rw [List.length_drop]; omega)]
  intro k l p hk
  exact key l.length l (Nat.le_refl _) k (l.length + 1) p hk (by omega)

/-- What the loop of lex.Tokens keeps: the tokens so far, and what the rest will give. -/
def TokInv (a0 : ByteArray) (ts : List S30) (p : Nat) : Prop :=
  toks a0 = match scan ((a0.data.toList.drop p).length + 1) (a0.data.toList.drop p) p with
    | none => ([], 3)
    | some l => (ts ++ l, 0)

theorem inv_start (a0 : ByteArray) (h : a0.size ≤ 1500) : TokInv a0 [] 0 := by
  unfold TokInv toks
  rw [if_neg (by omega), List.drop_zero, Lib.size_eq]
  rfl
theorem inv_end {a0 : ByteArray} {ts : List S30} {p : Nat} (h : TokInv a0 ts p) (hb : (a0.data.toList.drop p).dropWhile isBlank = []) : toks a0 = (ts, 0) := by
  unfold TokInv at h
  rw [h]
  simp only [scan, hb, if_true, List.append_nil]
theorem inv_err {a0 : ByteArray} {ts : List S30} {p : Nat} (h : TokInv a0 ts p) (hb : (a0.data.toList.drop p).dropWhile isBlank ≠ [])
    (ht : tok ((a0.data.toList.drop p).dropWhile isBlank) (p + ((a0.data.toList.drop p).length - ((a0.data.toList.drop p).dropWhile isBlank).length)) = none) : toks a0 = ([], 3) := by
  unfold TokInv at h
  rw [h]
  simp only [scan, if_neg hb, ht]
theorem inv_next {a0 : ByteArray} {ts : List S30} {p q : Nat} {S : List UInt8} {t : S30} (h : TokInv a0 ts p) (hp : p ≤ a0.size) (hS : (a0.data.toList.drop p).dropWhile isBlank = S) (hb : S ≠ []) (hq : q + S.length = a0.size)
    (ht : tok S q = some t) : TokInv a0 (ts ++ [t]) (q + t.f1.size) ∧ q + t.f1.size ≤ a0.size ∧ p < q + t.f1.size ∧ 1 ≤ t.f1.size := by
  obtain ⟨h3, h1, h2, hf⟩ := tok_spec ht
  have hle := dropWhile_le isBlank (a0.data.toList.drop p)
  rw [hS, List.length_drop, ← Lib.size_eq] at hle
  have hqe : p + ((a0.data.toList.drop p).length - S.length) = q := by rw [List.length_drop, ← Lib.size_eq]; omega
  have hSd : S = a0.data.toList.drop q := by
    rw [← hS, dropWhile_drop isBlank (a0.data.toList.drop p), hS, List.drop_drop, hqe]
  have hSd2 : S.drop t.f1.size = a0.data.toList.drop (q + t.f1.size) := by
    rw [hSd, List.drop_drop]
  refine ⟨?_, by omega, by omega, h1⟩
  unfold TokInv at h ⊢
  rw [h]
  rw [scan.eq_def]
  simp only [hS, if_neg hb, hqe, ht]
  rw [← hSd2]
  rw [scan_fuel _ (S.drop t.f1.size) _ (by rw [List.length_drop, List.length_drop, ← Lib.size_eq]; omega)]
  cases scan ((S.drop t.f1.size).length + 1) (S.drop t.f1.size) (q + t.f1.size) with
  | none => rfl
  | some l => simp

theorem at_nil : lex_at.f [] = some 0 := rfl
theorem at_snoc (l : List S30) (t : S30) (q n : Nat) (h3 : t.f3 = (q : Int)) (hn : t.f1.size = n) (hb : q + n ≤ 1500) (hl : l.length ≤ 1500) : lex_at.f (l ++ [t]) = some ((q + n : Nat) : Int) := by
  unfold lex_at.f
  have hlen : ((l ++ [t]).length : Int) = (l.length : Int) + 1 := by simp
  rw [if_neg (by omega)]
  have hw : wrap64 (((l ++ [t]).length : Int) - 1) = (l.length : Int) := by rw [hlen]; unfold wrap64; omega
  rw [hw, if_pos (by omega), if_pos (by omega)]
  have hr : rd_T30 (l ++ [t]) (l.length : Int) = t := by simp [rd_T30]
  rw [hr, h3, hn]
  congr 1
  unfold wrap64
  omega

end Go.Proofs.YtgbihkljbpionaaDoor.Q
