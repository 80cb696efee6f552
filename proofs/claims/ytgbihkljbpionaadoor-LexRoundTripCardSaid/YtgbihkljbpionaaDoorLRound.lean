/- The plain law of LexRoundTrip: lexing what Show gives yields the tokens again, and the same text. -/
import Derived.Test.YtgbihkljbpionaaDoorEPure3
import Derived.Test.YtgbihkljbpionaaDoorQx15
namespace Go.Proofs.YtgbihkljbpionaaDoor.Q
open Go.RowKit Go.Proofs.YtgbihkljbpionaaDoorW.PrintWords Go.Proofs.YtgbihkljbpionaaDoorW.PrintLast
set_option linter.unusedVariables false
set_option linter.unusedSimpArgs false

/-- The tokens as they stand in the text that Show gives. -/
def reAt : List S30 → Nat → List S30
  | [], _ => []
  | t :: r, p => ⟨t.f0, t.f1, t.f2, (p : Int)⟩ :: reAt r (p + t.f1.size + 1)

theorem reAt_len : ∀ (l : List S30) (p : Nat), (reAt l p).length = l.length
  | [], _ => rfl
  | t :: r, p => by simp [reAt, reAt_len r]
theorem reAt_get : ∀ (l : List S30) (p i : Nat) (h : i < l.length) (h' : i < (reAt l p).length), ((reAt l p)[i]'h').f0 = (l[i]'h).f0 ∧ ((reAt l p)[i]'h').f1 = (l[i]'h).f1 ∧ ((reAt l p)[i]'h').f2 = (l[i]'h).f2
  | [], _, i, h, _ => by simp at h
  | t :: r, p, 0, _, _ => ⟨rfl, rfl, rfl⟩
  | t :: r, p, i + 1, h, h' => reAt_get r _ i (by simpa using h) (by simpa [reAt] using h')
theorem reAt_texts : ∀ (l : List S30) (p : Nat), (reAt l p).map (·.f1.data.toList) = l.map (·.f1.data.toList)
  | [], _ => rfl
  | t :: r, p => by simp [reAt, reAt_texts r]
theorem showL_reAt (l : List S30) (p : Nat) : showL (reAt l p) = showL l := by
  unfold showL
  rw [reAt_texts]

/-- A token that its own text gives, wherever it stands. -/
def Good (t : S30) : Prop := ∀ p : Nat, tok t.f1.data.toList p = some ⟨t.f0, t.f1, t.f2, (p : Int)⟩
theorem good_of {s : List UInt8} {p : Nat} {t : S30} (h : tok s p = some t) : Good t := by
  have h0 := tok_own h
  obtain ⟨h3, _⟩ := tok_spec h
  have key : ∀ d, tok t.f1.data.toList (p + d) = some ⟨t.f0, t.f1, t.f2, ((p + d : Nat) : Int)⟩ := by
    intro d
    rw [tok_shift, h0]
    simp [moved, h3]
  have k2 : ∃ u, tok t.f1.data.toList 0 = some u ∧ moved p u = t := by
    have := tok_shift t.f1.data.toList 0 p
    rw [Nat.zero_add, h0] at this
    cases hu : tok t.f1.data.toList 0 with
    | none => rw [hu] at this; simp at this
    | some u =>
      rw [hu] at this
      simp only [Option.map_some, Option.some.injEq] at this
      exact ⟨u, rfl, this.symm⟩
  obtain ⟨u, hu, hm⟩ := k2
  obtain ⟨u3, _⟩ := tok_spec hu
  intro q
  have := tok_shift t.f1.data.toList 0 q
  rw [Nat.zero_add, hu] at this
  rw [this]
  simp only [Option.map_some, Option.some.injEq]
  rw [← hm]
  simp [moved, u3]

theorem SC_good : ∀ (n : Nat) (l : List UInt8) (p : Nat) (ts : List S30), l.length ≤ n → SC l p = some ts → (∀ t ∈ ts, Good t ∧ ∃ c r, t.f1.data.toList = c :: r ∧ isBlank c = false) ∧ (ts.map (·.f1.size)).sum ≤ l.length := by
  intro n
  induction n with
  | zero =>
    intro l p ts hl h
    obtain rfl : l = [] := List.eq_nil_of_length_eq_zero (by omega)
    rw [SC_nil] at h
    obtain rfl := Option.some.inj h
    exact ⟨fun t ht => by simp at ht, by simp⟩
  | succ n ih =>
    intro l p ts hl h
    cases l with
    | nil =>
      rw [SC_nil] at h
      obtain rfl := Option.some.inj h
      exact ⟨fun t ht => by simp at ht, by simp⟩
    | cons c r =>
      rw [List.length_cons] at hl
      by_cases hb : isBlank c = true
      · rw [SC_blank _ _ _ hb] at h
        obtain ⟨h1, h2⟩ := ih r _ ts (by omega) h
        exact ⟨h1, by rw [List.length_cons]; omega⟩
      · rw [Bool.not_eq_true] at hb
        rw [SC_tok _ _ _ hb] at h
        cases ht : tok (c :: r) p with
        | none => rw [ht] at h; simp at h
        | some t =>
          rw [ht] at h
          simp only [] at h
          obtain ⟨ts', hs, rfl⟩ := Option.map_eq_some_iff.1 h
          obtain ⟨_, g1, g2, _⟩ := tok_spec ht
          obtain ⟨h1, h2⟩ := ih _ _ ts' (by rw [List.length_drop, List.length_cons]; omega) hs
          refine ⟨fun u hu => ?_, ?_⟩
          · rcases List.mem_cons.1 hu with rfl | hu
            · exact ⟨good_of ht, tok_head ht⟩
            · exact h1 u hu
          · rw [List.length_drop] at h2
            rw [List.map_cons, List.sum_cons]
            omega

theorem size_data (t : S30) : t.f1.size = t.f1.data.toList.length := Lib.size_eq _
theorem showL_cons2 (t u : S30) (r : List S30) : showL (t :: u :: r) = t.f1.data.toList ++ 32 :: showL (u :: r) := by
  unfold showL
  simp only [List.map_cons, Lib.join_cons]
  simp [Lib.joinTail]
theorem showL_cons1 (t : S30) : showL [t] = t.f1.data.toList := Lib.join_one _ _

theorem SC_show : ∀ (ts : List S30) (p : Nat), (∀ t ∈ ts, Good t ∧ ∃ c r, t.f1.data.toList = c :: r ∧ isBlank c = false) → SC (showL ts) p = some (reAt ts p)
  | [], p, _ => SC_nil p
  | [t], p, h => by
    obtain ⟨hg, c, r, hc, hb⟩ := h t List.mem_cons_self
    have hgp := hg p
    have hsz : t.f1.size = (c :: r).length := (size_data t).trans (congrArg List.length hc)
    rw [showL_cons1, hc] at *
    rw [SC_tok _ _ _ hb, hgp]
    simp only []
    rw [hsz, List.drop_length, SC_nil]
    rfl
  | t :: u :: r, p, h => by
    obtain ⟨hg, c, s, hc, hb⟩ := h t List.mem_cons_self
    have hgp := hg p
    have hsz : t.f1.size = (c :: s).length := (size_data t).trans (congrArg List.length hc)
    have ih := SC_show (u :: r) (p + t.f1.size + 1) (fun x hx => h x (List.mem_cons_of_mem _ hx))
    have h32 : isBlank 32 = true := by decide
    have hap := tok_append (c :: s) (by simp) 32 (showL (u :: r)) h32 p
    rw [showL_cons2, hc] at *
    rw [List.cons_append] at *
    rw [SC_tok _ _ _ hb, hap, hgp]
    simp only []
    rw [show (c :: (s ++ 32 :: showL (u :: r))).drop t.f1.size = 32 :: showL (u :: r) from by rw [hsz, ← List.cons_append, List.drop_left], SC_blank _ _ _ h32, ih]
    rfl

theorem showL_size (ts : List S30) : (showL ts).length ≤ (ts.map (·.f1.size)).sum + ts.length := by
  cases ts with
  | nil => simp [showL, Lib.join_nil]
  | cons t r =>
    unfold showL
    rw [List.map_cons, Lib.join_length]
    have key : ∀ l : List S30, Lib.lens (l.map (·.f1.data.toList)) = (l.map (·.f1.size)).sum := by
      intro l
      induction l with
      | nil => rfl
      | cons a l ih =>
        simp only [Lib.lens, List.map_cons, List.sum_cons] at ih ⊢
        rw [ih, ← size_data]
    have hk := key (t :: r)
    rw [List.map_cons] at hk
    rw [hk]
    simp
    omega

theorem alike_loop (l m : List S30) (hlen : l.length = m.length) (hl : l.length ≤ 1000000) (hs : ∀ i (h : i < l.length) (h' : i < m.length), (m[i]'h').f0 = (l[i]'h).f0 ∧ (m[i]'h').f1 = (l[i]'h).f1 ∧ (m[i]'h').f2 = (l[i]'h).f2) :
    ∀ (d i k : Nat), l.length - i = d → i ≤ l.length → d < k → bootchainref12_Alike.l0 k l m (i : Int) = some true := by
  intro d
  induction d with
  | zero =>
    intro i k hd hi hk
    obtain ⟨k, rfl⟩ : ∃ m, k = m + 1 := ⟨k - 1, by omega⟩
    simp only [bootchainref12_Alike.l0]
    rw [if_neg (by omega)]
  | succ d ih =>
    intro i k hd hi hk
    obtain ⟨k, rfl⟩ : ∃ m, k = m + 1 := ⟨k - 1, by omega⟩
    have hlt : i < l.length := by omega
    have hlt' : i < m.length := by omega
    obtain ⟨h0, h1, h2⟩ := hs i hlt hlt'
    simp only [bootchainref12_Alike.l0]
    have e1 : rd_T30 l (i : Int) = l[i]'hlt := by
      unfold rd_T30
      rw [Int.toNat_natCast, List.getD_eq_getElem?_getD, List.getElem?_eq_getElem hlt]
      rfl
    have e2 : rd_T30 m (i : Int) = m[i]'hlt' := by
      unfold rd_T30
      rw [Int.toNat_natCast, List.getD_eq_getElem?_getD, List.getElem?_eq_getElem hlt']
      rfl
    rw [if_pos (by omega), if_pos (by omega), if_pos (by omega), e1, e2, h0, h1, h2, if_pos (by trivial), if_pos (by trivial), if_pos (by trivial), wrap_small _ (by omega) (by omega)]
    exact ih (i + 1) k (by omega) (by omega) (by omega)

/-- THE PLAIN LAW. -/
theorem pure_roundtrip (a0 : ByteArray) : ∃ k, bootchainlaw12_LexRoundTrip.f k a0 = some true := by
  refine ⟨20000, ?_⟩
  unfold bootchainlaw12_LexRoundTrip.f
  rw [sanity_ok 20000 (by omega)]
  simp only [Option.bind_some]
  by_cases h : (a0.size : Int) > 600
  · rw [if_pos h]
  · rw [if_neg h]
    have hlen := toks_len a0
    unfold lex_Tokens.f
    simp only [Option.bind_some]
    rw [toks_eq a0 (by omega)] at hlen ⊢
    cases hS : SC a0.data.toList 0 with
    | none => rfl
    | some l =>
      rw [hS] at hlen
      simp only [] at hlen ⊢
      obtain ⟨hg, hsum⟩ := SC_good _ _ _ _ (Nat.le_refl _) hS
      rw [← Lib.size_eq] at hsum
      have hsz := showL_size l
      rw [if_pos (by trivial), show_eq l (by omega) (by omega) 20000 (by omega)]
      simp only [Option.bind_some]
      have hb : (⟨(showL l).toArray⟩ : ByteArray).size = (showL l).length := rfl
      rw [toks_eq ⟨(showL l).toArray⟩ (by omega)]
      have hSC : SC (⟨(showL l).toArray⟩ : ByteArray).data.toList 0 = some (reAt l 0) := SC_show l 0 hg
      rw [hSC]
      simp only []
      have hrl := reAt_len l 0
      have hal : bootchainref12_Alike.f 20000 l (reAt l 0) = some true := by
        unfold bootchainref12_Alike.f
        rw [if_pos (by omega)]
        exact alike_loop l (reAt l 0) hrl.symm (by omega) (fun i h1 h2 => reAt_get l 0 i h1 h2) l.length 0 20000 (by omega) (by omega) (by omega)
      rw [if_pos (by trivial), if_pos (by trivial), hal]
      simp only [Option.bind_some]
      rw [if_pos (by trivial), show_eq (reAt l 0) (by omega) (by rw [showL_reAt]; omega) 20000 (by omega), showL_reAt]
      simp

end Go.Proofs.YtgbihkljbpionaaDoor.Q
