/- The contract of lex.number at every text that begins with a digit. -/
import Derived.Test.YtgbihkljbpionaaDoorENum
import Derived.Lib.AtoiTie
namespace Go.Proofs.YtgbihkljbpionaaDoor.Q
open Go.RowKit Go.Proofs.YtgbihkljbpionaaDoorW.PrintWords
set_option linter.unusedVariables false
set_option linter.unusedSimpArgs false

def Digits (l : List UInt8) : Prop := ∀ c ∈ l, 48 ≤ c.toNat ∧ c.toNat ≤ 57
theorem digit_iff (c : UInt8) : isDigit c = true ↔ 48 ≤ c.toNat ∧ c.toNat ≤ 57 := by
  unfold isDigit
  simp
theorem takeWhile_all {α : Type} (q : α → Bool) : ∀ (l : List α), ∀ c ∈ l.takeWhile q, q c = true
  | [], c, h => by simp at h
  | a :: l, c, h => by
    simp only [List.takeWhile] at h
    split at h
    · rename_i ha
      rcases List.mem_cons.1 h with rfl | h
      · exact ha
      · exact takeWhile_all q l c h
    · simp at h
theorem digits_take (l : List UInt8) : Digits (l.takeWhile isDigit) := fun c hc => (digit_iff c).1 (takeWhile_all isDigit l c hc)

theorem decFrom_digits : ∀ (l : List UInt8) (acc : Nat), Digits l → Lib.decFrom acc l = some (l.foldl (fun n c => 10 * n + (c.toNat - 48)) acc)
  | [], acc, _ => rfl
  | c :: l, acc, h => by
    have hc := h c List.mem_cons_self
    simp only [Lib.decFrom, Lib.digitVal, if_pos hc, List.foldl_cons]
    rw [decFrom_digits l _ (fun x hx => h x (List.mem_cons_of_mem _ hx)), Nat.mul_comm]
theorem atoi_digits (l : List UInt8) (h : Digits l) (hn : l ≠ []) : Lib.atoi l = some (val l : Int) := by
  cases l with
  | nil => exact absurd rfl hn
  | cons c r =>
    have hc := h c List.mem_cons_self
    have h45 : (c == 45) = false := by
      rw [beq_eq_false_iff_ne]
      rintro rfl
      simp at hc
    have h43 : (c == 43) = false := by
      rw [beq_eq_false_iff_ne]
      rintro rfl
      simp at hc
    simp only [Lib.atoi, h45, h43, Bool.false_eq_true, if_false, Lib.decNat, List.isEmpty_cons]
    rw [decFrom_digits _ _ h]
    rfl
theorem atoiAll_digits (l : List UInt8) (h : Digits l) (hn : l ≠ []) (hl : l.length ≤ 18) : Lib.atoiAll l = .ok (val l : Int) := by
  rw [Lib.atoiAll_short l hl, atoi_digits l h hn]
  rfl

theorem snocRec {α : Type} {P : List α → Prop} (h0 : P []) (h1 : ∀ l a, P l → P (l ++ [a])) (l : List α) : P l := by
  have key : ∀ r : List α, P r.reverse := by
    intro r
    induction r with
    | nil => exact h0
    | cons a r ih => rw [List.reverse_cons]; exact h1 _ _ ih
  have := key l.reverse
  rwa [List.reverse_reverse] at this
theorem val_snoc (l : List UInt8) (c : UInt8) : val (l ++ [c]) = 10 * val l + (c.toNat - 48) := by
  unfold val
  rw [List.foldl_append]
  rfl
theorem digit_of (c : UInt8) (h : 48 ≤ c.toNat ∧ c.toNat ≤ 57) : UInt8.ofNat (48 + (c.toNat - 48)) = c := by
  rw [show 48 + (c.toNat - 48) = c.toNat from by omega]
  simp
theorem val_pos : ∀ (l : List UInt8) (c : UInt8), Digits (c :: l) → c.toNat ≠ 48 → 1 ≤ val (c :: l) := by
  refine snocRec ?_ ?_
  · intro c h hc
    have := h c List.mem_cons_self
    simp [val]
    omega
  · intro l d ih c h hc
    have := ih c (fun x hx => h x (by simp at hx ⊢; rcases hx with hx | hx <;> simp [hx])) hc
    rw [← List.cons_append, val_snoc]
    omega

/-- Without a leading zero the digits are the numeral. -/
theorem dec_val : ∀ (l : List UInt8), Digits l → l ≠ [] → (l.head? ≠ some 48 ∨ l.length = 1) → Lib.decDigits (val l) = l := by
  refine snocRec ?_ ?_
  · intro _ h _; exact absurd rfl h
  · intro l d ih h _ hz
    have hd := h d (by simp)
    cases l with
    | nil =>
      rw [Lib.decDigits_one (by simp [val]; omega)]
      simp only [val, List.nil_append, List.foldl_cons, List.foldl_nil, Nat.mul_zero, Nat.zero_add]
      rw [digit_of d hd]
    | cons c t =>
      have hc : c.toNat ≠ 48 := by
        rcases hz with hz | hz
        · intro e
          apply hz
          rw [List.cons_append, List.head?_cons]
          congr 1
          exact UInt8.toNat_inj.1 e
        · simp at hz
      have hD : Digits (c :: t) := fun x hx => h x (by simp at hx ⊢; rcases hx with hx | hx <;> simp [hx])
      have hp := val_pos t c hD hc
      have ih' := ih hD (by simp) (.inl (by
        rw [List.head?_cons]
        intro e
        injection e with e
        exact hc (by rw [e]; rfl)))
      rw [val_snoc, Lib.decDigits, dif_neg (by omega)]
      rw [show (10 * val (c :: t) + (d.toNat - 48)) / 10 = val (c :: t) from by omega, show (10 * val (c :: t) + (d.toNat - 48)) % 10 = d.toNat - 48 from by omega, ih', digit_of d hd]
/-- A numeral of two digits or more has no leading zero. -/
theorem dec_head (n : Nat) : ∀ u, u ≤ n → (Lib.decDigits u).head? = some 48 → (Lib.decDigits u).length = 1 := by
  induction n with
  | zero =>
    intro u hu h
    obtain rfl : u = 0 := by omega
    rw [Lib.decDigits_one (by omega)]
    rfl
  | succ n ih =>
    intro u hu h
    by_cases h10 : u < 10
    · rw [Lib.decDigits_one h10]
      rfl
    · rw [Lib.decDigits, dif_neg h10] at h
      have hne : Lib.decDigits (u / 10) ≠ [] := by
        intro e
        have := congrArg List.length e
        rw [Lib.decDigits_length] at this
        unfold Lib.nDigits at this
        split at this <;> simp at this
      have hh : (Lib.decDigits (u / 10)).head? = some 48 := by
        cases hd : Lib.decDigits (u / 10) with
        | nil => exact absurd hd hne
        | cons a b => rw [hd] at h; simpa using h
      have hl := ih (u / 10) (by omega) hh
      exfalso
      -- the leading part has one digit, and it is a zero
      by_cases hq : u / 10 < 10
      · rw [Lib.decDigits_one hq] at hh
        simp only [List.head?_cons, Option.some.injEq] at hh
        have h2 := congrArg UInt8.toNat hh
        simp at h2
        omega
      · rw [Lib.decDigits_length, Lib.nDigits, dif_neg hq] at hl
        unfold Lib.nDigits at hl
        split at hl <;> omega

theorem itoa_iff (l : List UInt8) (h : Digits l) (hn : l ≠ []) : Lib.itoa (val l : Int) = l ↔ (l.head? ≠ some 48 ∨ l.length = 1) := by
  have hi : Lib.itoa (val l : Int) = Lib.decDigits (val l) := by
    unfold Lib.itoa
    rw [if_neg (by omega)]
    simp
  rw [hi]
  constructor
  · intro e
    by_cases hh : l.head? = some 48
    · right
      have := dec_head _ (val l) (Nat.le_refl _) (by rw [e]; exact hh)
      rw [e] at this
      exact this
    · exact .inl hh
  · exact dec_val l h hn

theorem toList_mk (l : List UInt8) : (⟨l.toArray⟩ : ByteArray).toList = l := by simp
theorem takeWhile_take {α : Type} (q : α → Bool) : ∀ l : List α, l.take (l.takeWhile q).length = l.takeWhile q
  | [] => rfl
  | a :: l => by
    simp only [List.takeWhile]
    split
    · simp only [List.length_cons, List.take_succ_cons, takeWhile_take q l]
    · rfl
theorem extract_take (s : ByteArray) (k : Nat) : s.extract 0 k = ⟨(s.data.toList.take k).toArray⟩ := by
  apply ByteArray.ext
  apply Array.ext'
  simp

def NumPost (s : ByteArray) (w : World) (e : Ending) (w' : World) : Prop :=
  ∃ n : Int, e = .returned (.tuple #[.agg #[.int .i64 2, .string ⟨(s.data.toList.takeWhile isDigit).toArray⟩, .int .i64 n, .int .i64 0], .bool (numOk s.data.toList (s.data.toList.takeWhile isDigit))]) ∧
    (numOk s.data.toList (s.data.toList.takeWhile isDigit) = true → n = val (s.data.toList.takeWhile isDigit)) ∧ Below w.heap.size w w'

theorem number_calls (s : ByteArray) (w : World) (hT : Tabs w) (hs : s.size ≤ 281474976710656) (hn : s.data.toList.takeWhile isDigit ≠ []) : Calls Tryd.prog 24 #[.string s] w (NumPost s w) := by
  have hW : s.extract 0 (s.data.toList.takeWhile isDigit).length = ⟨(s.data.toList.takeWhile isDigit).toArray⟩ := by rw [extract_take, takeWhile_take]
  have hD := digits_take s.data.toList
  have hkl : (s.data.toList.takeWhile isDigit).length ≤ s.size := by have := twLen isDigit s.data.toList; simpa using this
  have hd : (⟨(s.data.toList.takeWhile isDigit).toArray⟩ : ByteArray).data.toList = s.data.toList.takeWhile isDigit := rfl
  have hfe : (s.data.toList.takeWhile isDigit).length = s.size → follows s.data.toList (s.data.toList.takeWhile isDigit).length = false := by
    intro e
    unfold follows
    rw [e, List.getElem?_eq_none (by simp)]
  unfold NumPost
  by_cases hA : ∀ v, Lib.atoiAll (s.data.toList.takeWhile isDigit) ≠ .ok v
  · have hno : numOk s.data.toList (s.data.toList.takeWhile isDigit) = false := by
      unfold numOk
      have : ¬ (s.data.toList.takeWhile isDigit).length ≤ 5 := fun h5 => hA _ (atoiAll_digits _ hD hn (by omega))
      simp [this]
    rw [hno]
    by_cases hlt : (s.data.toList.takeWhile isDigit).length < s.size
    · exact (num_err_l s _ _ w hT hs rfl hW _ hlt rfl hA).mono fun e w' ⟨n, he, hb⟩ => ⟨n, he, fun h => by simp at h, hb⟩
    · exact (num_err_e s _ _ w hT hs rfl hW (by omega) hA).mono fun e w' ⟨n, he, hb⟩ => ⟨n, he, fun h => by simp at h, hb⟩
  · obtain ⟨v, hv⟩ : ∃ v, Lib.atoiAll (s.data.toList.takeWhile isDigit) = .ok v := by
      false_or_by_contra
      rename_i h
      exact hA fun v hv => h ⟨v, hv⟩
    by_cases h5 : (s.data.toList.takeWhile isDigit).length ≤ 5
    · have hv2 := atoiAll_digits _ hD hn (by omega)
      obtain rfl : v = val (s.data.toList.takeWhile isDigit) := by
        rw [hv2] at hv
        injection hv with hv
        exact hv.symm
      by_cases h1 : 65536 ≤ val (s.data.toList.takeWhile isDigit)
      · have hno : numOk s.data.toList (s.data.toList.takeWhile isDigit) = false := by
          unfold numOk
          have : ¬ val (s.data.toList.takeWhile isDigit) < 65536 := by omega
          simp [this]
        rw [hno]
        by_cases hlt : (s.data.toList.takeWhile isDigit).length < s.size
        · exact (num_big_l s _ _ _ w hT hs rfl hW _ hlt rfl hv h5 (by omega)).mono fun e w' ⟨he, hb⟩ => ⟨_, he, fun h => by simp at h, hb⟩
        · exact (num_big_e s _ _ _ w hT hs rfl hW (by omega) hv h5 (by omega)).mono fun e w' ⟨he, hb⟩ => ⟨_, he, fun h => by simp at h, hb⟩
      · have hi := itoa_iff _ hD hn
        by_cases hc : Lib.itoa (val (s.data.toList.takeWhile isDigit) : Int) = s.data.toList.takeWhile isDigit
        · have hz := hi.1 hc
          have hyes : numOk s.data.toList (s.data.toList.takeWhile isDigit) = !follows s.data.toList (s.data.toList.takeWhile isDigit).length := by
            unfold numOk
            have e1 : (decide ((s.data.toList.takeWhile isDigit).length ≤ 5)) = true := decide_eq_true h5
            have e2 : (decide (val (s.data.toList.takeWhile isDigit) < 65536)) = true := decide_eq_true (by omega)
            have e3 : ((s.data.toList.takeWhile isDigit).head? != some 48 || decide ((s.data.toList.takeWhile isDigit).length = 1)) = true := by
              rw [Bool.or_eq_true, bne_iff_ne, decide_eq_true_eq]
              exact hz
            rw [e1, e2, e3, Bool.true_and, Bool.true_and, Bool.true_and]
          rw [hyes]
          by_cases hlt : (s.data.toList.takeWhile isDigit).length < s.size
          · exact (num_eq_l s _ _ _ w hT hs rfl hW _ hlt rfl hv (by omega) (by omega) h5 (by rw [toList_mk]; exact hc)).mono fun e w' ⟨he, hb⟩ => ⟨_, he, fun _ => rfl, hb⟩
          · rw [hfe (by omega)]
            exact (num_eq_e s _ _ _ w hT hs rfl hW (by omega) hv (by omega) (by omega) h5 (by rw [toList_mk]; exact hc)).mono fun e w' ⟨he, hb⟩ => ⟨_, he, fun _ => rfl, hb⟩
        · have hno : numOk s.data.toList (s.data.toList.takeWhile isDigit) = false := by
            unfold numOk
            have e3 : ((s.data.toList.takeWhile isDigit).head? != some 48 || decide ((s.data.toList.takeWhile isDigit).length = 1)) = false := by
              rw [Bool.eq_false_iff, ne_eq, Bool.or_eq_true, bne_iff_ne, decide_eq_true_eq]
              exact fun h => hc (hi.2 h)
            rw [e3, Bool.false_and, Bool.and_false, Bool.and_false]
          rw [hno]
          by_cases hlt : (s.data.toList.takeWhile isDigit).length < s.size
          · exact (num_ne_l s _ _ _ w hT hs rfl hW _ hlt rfl hv (by omega) (by omega) h5 (by rw [toList_mk]; exact hc)).mono fun e w' ⟨he, hb⟩ => ⟨_, he, fun h => by simp at h, hb⟩
          · exact (num_ne_e s _ _ _ w hT hs rfl hW (by omega) hv (by omega) (by omega) h5 (by rw [toList_mk]; exact hc)).mono fun e w' ⟨he, hb⟩ => ⟨_, he, fun h => by simp at h, hb⟩
    · have hno : numOk s.data.toList (s.data.toList.takeWhile isDigit) = false := by
        unfold numOk
        simp [h5]
      rw [hno]
      by_cases hlt : (s.data.toList.takeWhile isDigit).length < s.size
      · exact (num_long_l s _ _ _ w hT hs rfl hW _ hlt rfl hv (by omega)).mono fun e w' ⟨he, hb⟩ => ⟨_, he, fun h => by simp at h, hb⟩
      · exact (num_long_e s _ _ _ w hT hs rfl hW (by omega) hv (by omega)).mono fun e w' ⟨he, hb⟩ => ⟨_, he, fun h => by simp at h, hb⟩

end Go.Proofs.YtgbihkljbpionaaDoor.Q
