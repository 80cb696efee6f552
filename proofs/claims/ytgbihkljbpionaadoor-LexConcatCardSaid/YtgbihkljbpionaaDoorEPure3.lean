/- Plain laws of the scan: shifting it, putting a blank behind, reading a token's own text again. -/
import Derived.Test.YtgbihkljbpionaaDoorLMatches2
namespace Go.Proofs.YtgbihkljbpionaaDoor.Q
open Go.RowKit Go.Proofs.YtgbihkljbpionaaDoorW.PrintWords Go.Proofs.YtgbihkljbpionaaDoorW.PrintLast
set_option linter.unusedVariables false
set_option linter.unusedSimpArgs false

/-- A token at another place. -/
def moved (d : Nat) (t : S30) : S30 := ⟨t.f0, t.f1, t.f2, t.f3 + (d : Int)⟩

theorem tok_shift (s : List UInt8) (p d : Nat) : tok s (p + d) = (tok s p).map (moved d) := by
  have key : ∀ (k : Int) (w : List UInt8) (n : Nat), tk k w n (p + d) = moved d (tk k w n p) := by
    intro k w n
    simp [tk, moved]
  cases s with
  | nil => rfl
  | cons c r =>
    simp only [tok]
    by_cases hl : isLetter c = true
    · rw [if_pos hl, if_pos hl]
      by_cases h : ((c :: r).takeWhile isWithin).length ≤ 12
      · rw [if_pos h, if_pos h, key]; rfl
      · rw [if_neg h, if_neg h]; rfl
    · rw [if_neg hl, if_neg hl]
      by_cases hd : isDigit c = true
      · rw [if_pos hd, if_pos hd]
        by_cases h : numOk (c :: r) ((c :: r).takeWhile isDigit) = true
        · rw [if_pos h, if_pos h, key]; rfl
        · rw [if_neg h, if_neg h]; rfl
      · rw [if_neg hd, if_neg hd, Option.map_map]
        congr 1

theorem takeWhile_append_stop {α : Type} (q : α → Bool) (b : α) (c : List α) (hb : q b = false) : ∀ s : List α, (s ++ b :: c).takeWhile q = s.takeWhile q
  | [] => by simp [List.takeWhile, hb]
  | a :: s => by
    simp only [List.cons_append, List.takeWhile]
    split
    · rw [takeWhile_append_stop q b c hb s]
    · rfl

theorem blank_nw {b : UInt8} (h : isBlank b = true) : isWithin b = false ∧ isDigit b = false := by
  obtain ⟨h1, h2⟩ := blank_not h
  have h3 := (blank_iff b).1 h
  refine ⟨?_, h2⟩
  rw [Bool.eq_false_iff, ne_eq, within_iff, h1, h2]
  simp
  omega

theorem numOk_append (s : List UInt8) (b : UInt8) (c : List UInt8) (hb : isBlank b = true) (w : List UInt8) (hw : w.length ≤ s.length) : numOk (s ++ b :: c) w = numOk s w := by
  unfold numOk
  have hf : follows (s ++ b :: c) w.length = follows s w.length := by
    unfold follows
    by_cases h : w.length < s.length
    · rw [List.getElem?_append_left h]
    · have e : w.length = s.length := by omega
      rw [e, List.getElem?_append_right (Nat.le_refl _), List.getElem?_eq_none (Nat.le_refl s.length)]
      simp [(blank_nw hb).1]
  rw [hf]

theorem tok_append (s : List UInt8) (hs : s ≠ []) (b : UInt8) (c : List UInt8) (hb : isBlank b = true) (p : Nat) : tok (s ++ b :: c) p = tok s p := by
  cases s with
  | nil => exact absurd rfl hs
  | cons x r =>
    have hw := takeWhile_append_stop isWithin b c (blank_nw hb).1 (x :: r)
    have hd := takeWhile_append_stop isDigit b c (blank_nw hb).2 (x :: r)
    have hn := numOk_append (x :: r) b c hb ((x :: r).takeWhile isDigit) (twLen isDigit (x :: r))
    have hbn := (blank_iff b).1 hb
    have ho : opsL.find? (fun o => o.isPrefixOf (x :: (r ++ b :: c))) = opsL.find? (fun o => o.isPrefixOf (x :: r)) := by
      rw [find_ops, find_ops]
      cases r with
      | nil =>
        have b61 : b ≠ 61 := by rintro rfl; simp at hbn
        have b38 : b ≠ 38 := by rintro rfl; simp at hbn
        have b124 : b ≠ 124 := by rintro rfl; simp at hbn
        simp [b61, b38, b124]
      | cons y r => rfl
    rw [List.cons_append] at hw hd hn ⊢
    simp only [tok]
    rw [hw, hd, hn, ho]

theorem takeWhile_self {α : Type} (q : α → Bool) : ∀ l : List α, (∀ x ∈ l, q x = true) → l.takeWhile q = l
  | [], _ => rfl
  | a :: l, h => by
    simp only [List.takeWhile, h a List.mem_cons_self]
    rw [takeWhile_self q l (fun x hx => h x (List.mem_cons_of_mem _ hx))]

/-- A token's own text is read as this token. -/
theorem tok_own {s : List UInt8} {p : Nat} {t : S30} (h : tok s p = some t) : tok t.f1.data.toList p = some t := by
  cases s with
  | nil => simp [tok] at h
  | cons c r =>
    simp only [tok] at h
    by_cases hl : isLetter c = true
    · rw [if_pos hl] at h
      by_cases h12 : ((c :: r).takeWhile isWithin).length ≤ 12
      · rw [if_pos h12] at h
        obtain rfl := Option.some.inj h
        show tok ((c :: r).takeWhile isWithin) p = _
        have he : (c :: r).takeWhile isWithin = c :: r.takeWhile isWithin := by simp [List.takeWhile, letter_within hl]
        have hself := takeWhile_self isWithin _ (takeWhile_all isWithin (c :: r))
        rw [he] at hself h12 ⊢
        simp only [tok]
        rw [if_pos hl, hself, if_pos h12]
      · rw [if_neg h12] at h
        cases h
    · rw [if_neg hl] at h
      by_cases hd : isDigit c = true
      · rw [if_pos hd] at h
        by_cases hn : numOk (c :: r) ((c :: r).takeWhile isDigit) = true
        · rw [if_pos hn] at h
          obtain rfl := Option.some.inj h
          show tok ((c :: r).takeWhile isDigit) p = _
          have he : (c :: r).takeWhile isDigit = c :: r.takeWhile isDigit := by simp [List.takeWhile, hd]
          have hself := takeWhile_self isDigit _ (takeWhile_all isDigit (c :: r))
          have hn2 : numOk ((c :: r).takeWhile isDigit) ((c :: r).takeWhile isDigit) = true := by
            unfold numOk at hn ⊢
            have hf : follows ((c :: r).takeWhile isDigit) ((c :: r).takeWhile isDigit).length = false := by
              unfold follows
              rw [List.getElem?_eq_none (Nat.le_refl _)]
            rw [hf]
            simp only [Bool.and_eq_true, Bool.not_false, and_true] at hn ⊢
            exact ⟨hn.1, hn.2.1, hn.2.2.1⟩
          rw [he] at hself hn2 ⊢
          simp only [tok]
          rw [if_neg hl, if_pos hd, hself, if_pos hn2]
        · rw [if_neg hn] at h
          cases h
      · rw [if_neg hd] at h
        obtain ⟨o, ho, rfl⟩ := Option.map_eq_some_iff.1 h
        have hp := List.find?_some ho
        have hm := List.mem_of_find?_eq_some ho
        show tok o p = _
        simp only [opsL, List.mem_cons, List.mem_nil_iff, or_false] at hm
        rcases hm with rfl | rfl | rfl | rfl | rfl | rfl | rfl | rfl | rfl | rfl | rfl | rfl | rfl | rfl | rfl <;> rfl

/-- The first byte of a token is no blank. -/
theorem tok_head {s : List UInt8} {p : Nat} {t : S30} (h : tok s p = some t) : ∃ c r, t.f1.data.toList = c :: r ∧ isBlank c = false := by
  have ho := tok_own h
  cases hs : t.f1.data.toList with
  | nil => rw [hs] at ho; simp [tok] at ho
  | cons c r =>
    refine ⟨c, r, rfl, ?_⟩
    rw [hs] at ho
    rw [Bool.eq_false_iff]
    intro hb
    obtain ⟨h1, h2⟩ := blank_not hb
    have h3 := (blank_iff c).1 hb
    simp only [tok, h1, h2, Bool.false_eq_true, if_false] at ho
    rw [find_ops] at ho
    have hc : c = 32 ∨ c = 9 ∨ c = 10 := by
      rcases h3 with h | h | h
      · exact .inl (UInt8.toNat_inj.1 h)
      · exact .inr (.inl (UInt8.toNat_inj.1 h))
      · exact .inr (.inr (UInt8.toNat_inj.1 h))
    rcases hc with rfl | rfl | rfl <;> simp at ho

/-- The scan, shifted. -/
theorem SC_shift (d : Nat) : ∀ (n : Nat) (l : List UInt8) (p : Nat), l.length ≤ n → SC l (p + d) = (SC l p).map (fun ts => ts.map (moved d)) := by
  intro n
  induction n with
  | zero =>
    intro l p hl
    obtain rfl : l = [] := List.eq_nil_of_length_eq_zero (by omega)
    rw [SC_nil, SC_nil]
    rfl
  | succ n ih =>
    intro l p hl
    cases l with
    | nil => rw [SC_nil, SC_nil]; rfl
    | cons c r =>
      rw [List.length_cons] at hl
      by_cases hb : isBlank c = true
      · rw [SC_blank _ _ _ hb, SC_blank _ _ _ hb, show p + d + 1 = (p + 1) + d from by omega]
        exact ih r (p + 1) (by omega)
      · rw [Bool.not_eq_true] at hb
        rw [SC_tok _ _ _ hb, SC_tok _ _ _ hb, tok_shift]
        cases ht : tok (c :: r) p with
        | none => rfl
        | some t =>
          obtain ⟨_, h1, h2, _⟩ := tok_spec ht
          simp only [Option.map_some]
          show Option.map _ (SC ((c :: r).drop t.f1.size) (p + d + t.f1.size)) = _
          rw [show p + d + t.f1.size = (p + t.f1.size) + d from by omega, ih _ _ (by rw [List.length_drop, List.length_cons]; omega)]
          cases SC ((c :: r).drop t.f1.size) (p + t.f1.size) with
          | none => rfl
          | some ts => rfl

/-- Two texts joined by a blank. -/
theorem SC_join (b : UInt8) (c : List UInt8) (hb : isBlank b = true) : ∀ (n : Nat) (a : List UInt8) (p : Nat), a.length ≤ n →
    SC (a ++ b :: c) p = match SC a p with
      | none => none
      | some l => (SC c (p + a.length + 1)).map (l ++ ·) := by
  intro n
  induction n with
  | zero =>
    intro a p hl
    obtain rfl : a = [] := List.eq_nil_of_length_eq_zero (by omega)
    rw [List.nil_append, SC_blank _ _ _ hb, SC_nil]
    simp only [List.length_nil, Nat.add_zero]
    cases SC c (p + 1) with
    | none => rfl
    | some l => rfl
  | succ n ih =>
    intro a p hl
    cases a with
    | nil =>
      rw [List.nil_append, SC_blank _ _ _ hb, SC_nil]
      simp only [List.length_nil, Nat.add_zero]
      cases SC c (p + 1) with
      | none => rfl
      | some l => rfl
    | cons x r =>
      rw [List.length_cons] at hl
      by_cases hx : isBlank x = true
      · rw [List.cons_append, SC_blank _ _ _ hx, SC_blank _ _ _ hx, ih r (p + 1) (by omega)]
        rw [show p + 1 + r.length + 1 = p + (x :: r).length + 1 from by rw [List.length_cons]; omega]
      · rw [Bool.not_eq_true] at hx
        have ha := tok_append (x :: r) (by simp) b c hb p
        rw [List.cons_append] at ha ⊢
        rw [SC_tok _ _ _ hx, SC_tok _ _ _ hx, ha]
        cases ht : tok (x :: r) p with
        | none => rfl
        | some t =>
          obtain ⟨_, h1, h2, _⟩ := tok_spec ht
          simp only []
          have hdrop : (x :: (r ++ b :: c)).drop t.f1.size = (x :: r).drop t.f1.size ++ b :: c := by
            rw [← List.cons_append, List.drop_append_of_le_length h2]
          rw [hdrop, ih _ _ (by rw [List.length_drop, List.length_cons]; omega)]
          rw [show p + t.f1.size + ((x :: r).drop t.f1.size).length + 1 = p + (x :: r).length + 1 from by rw [List.length_drop]; omega]
          cases SC ((x :: r).drop t.f1.size) (p + t.f1.size) with
          | none => rfl
          | some l =>
            simp only [Option.map_some]
            cases SC c (p + (x :: r).length + 1) with
            | none => rfl
            | some m => rfl

/-- A scan that succeeds, step by step. -/
theorem SC_some {a0 : ByteArray} {p : Nat} {suf : List S30} (hp : p ≤ a0.size) (h : SC (a0.data.toList.drop p) p = some suf) :
    (suf = [] ∧ ∀ i (hi : i < a0.size), p ≤ i → isBlank (a0[i]'hi) = true) ∨
    ∃ (t : S30) (suf' : List S30) (q : Nat), suf = t :: suf' ∧ p ≤ q ∧ (∀ i (hi : i < a0.size), p ≤ i → i < q → isBlank (a0[i]'hi) = true) ∧ t.f3 = (q : Int) ∧ 1 ≤ t.f1.size ∧ q + t.f1.size ≤ a0.size ∧
      t.f1 = ⟨((a0.data.toList.drop q).take t.f1.size).toArray⟩ ∧ SC (a0.data.toList.drop (q + t.f1.size)) (q + t.f1.size) = some suf' ∧ tok (a0.data.toList.drop q) q = some t := by
  have key : ∀ (n p : Nat), a0.size - p ≤ n → p ≤ a0.size → SC (a0.data.toList.drop p) p = some suf →
      (suf = [] ∧ ∀ i (hi : i < a0.size), p ≤ i → isBlank (a0[i]'hi) = true) ∨
      ∃ (t : S30) (suf' : List S30) (q : Nat), suf = t :: suf' ∧ p ≤ q ∧ (∀ i (hi : i < a0.size), p ≤ i → i < q → isBlank (a0[i]'hi) = true) ∧ t.f3 = (q : Int) ∧ 1 ≤ t.f1.size ∧ q + t.f1.size ≤ a0.size ∧
        t.f1 = ⟨((a0.data.toList.drop q).take t.f1.size).toArray⟩ ∧ SC (a0.data.toList.drop (q + t.f1.size)) (q + t.f1.size) = some suf' ∧ tok (a0.data.toList.drop q) q = some t := by
    intro n
    induction n with
    | zero =>
      intro p hn hp h
      obtain rfl : p = a0.size := by omega
      rw [List.drop_eq_nil_of_le (by rw [← Lib.size_eq]; omega), SC_nil] at h
      exact .inl ⟨(Option.some.inj h).symm, fun i hi h1 => by omega⟩
    | succ n ih =>
      intro p hn hp h
      by_cases hlt : p < a0.size
      · have hdc := drop_cons a0 p hlt
        by_cases hb : isBlank (a0[p]'hlt) = true
        · rw [hdc, SC_blank _ _ _ hb] at h
          rcases ih (p + 1) (by omega) (by omega) h with ⟨h1, h2⟩ | ⟨t, suf', q, h1, h2, h3, h4⟩
          · refine .inl ⟨h1, fun i hi hpi => ?_⟩
            by_cases e : i = p
            · subst e; exact hb
            · exact h2 i hi (by omega)
          · refine .inr ⟨t, suf', q, h1, by omega, fun i hi hpi hiq => ?_, h4⟩
            by_cases e : i = p
            · subst e; exact hb
            · exact h3 i hi (by omega) hiq
        · rw [Bool.not_eq_true] at hb
          rw [hdc, SC_tok _ _ _ hb] at h
          cases ht : tok ((a0[p]'hlt) :: a0.data.toList.drop (p + 1)) p with
          | none => rw [ht] at h; simp at h
          | some t =>
            rw [ht] at h
            simp only [] at h
            obtain ⟨suf', hs, rfl⟩ := Option.map_eq_some_iff.1 h
            rw [← hdc] at ht hs
            obtain ⟨g3, g1, g2, gf⟩ := tok_spec ht
            rw [List.drop_drop] at hs
            rw [List.length_drop, ← Lib.size_eq] at g2
            exact .inr ⟨t, suf', p, rfl, Nat.le_refl _, fun i hi h1 h2 => by omega, g3, g1, by omega, gf, hs, ht⟩
      · obtain rfl : p = a0.size := by omega
        rw [List.drop_eq_nil_of_le (by rw [← Lib.size_eq]; omega), SC_nil] at h
        exact .inl ⟨(Option.some.inj h).symm, fun i hi h1 => by omega⟩
  exact key (a0.size - p) p (Nat.le_refl _) hp h

end Go.Proofs.YtgbihkljbpionaaDoor.Q
