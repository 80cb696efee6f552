/- The plain law of LexMatches, second half: the reference's loop. -/
import Derived.Test.YtgbihkljbpionaaDoorLMatches
namespace Go.Proofs.YtgbihkljbpionaaDoor.Q
open Go.RowKit Go.Proofs.YtgbihkljbpionaaDoorW.PrintWords Go.Proofs.YtgbihkljbpionaaDoorW.PrintLast
set_option linter.unusedVariables false
set_option linter.unusedSimpArgs false

theorem extract_nat (a0 : ByteArray) (p n : Nat) : a0.extract ((p : Int)).toNat (((p + n : Nat) : Int)).toNat = ⟨((a0.data.toList.drop p).take n).toArray⟩ := by
  apply ByteArray.ext
  apply Array.ext'
  show (a0.extract ((p : Int)).toNat (((p + n : Nat) : Int)).toNat).data.toList = _
  rw [Lib.extract_data]
  simp only [Int.toNat_natCast, Nat.add_sub_cancel_left]

/-- The run of bytes at p that pass the test. -/
theorem run_spec (a0 : ByteArray) (q : UInt8 → Bool) (p n : Nat) (hn : n = ((a0.data.toList.drop p).takeWhile q).length) (hp : p ≤ a0.size) :
    p + n ≤ a0.size ∧ (∀ i (h : i < a0.size), p ≤ i → i < p + n → q (a0[i]'h) = true) ∧ (∀ h : p + n < a0.size, q (a0[p + n]'h) = false) ∧ (a0.data.toList.drop p).take n = (a0.data.toList.drop p).takeWhile q := by
  have hle := twLen q (a0.data.toList.drop p)
  rw [← hn, List.length_drop, ← Lib.size_eq] at hle
  refine ⟨by omega, ?_, ?_, by rw [hn, takeWhile_take]⟩
  · intro i h h1 h2
    have hm : a0[i]'h ∈ (a0.data.toList.drop p).takeWhile q := by
      rw [← takeWhile_take, ← hn]
      apply List.mem_of_getElem? (i := i - p)
      rw [List.getElem?_take, if_pos (by omega), List.getElem?_drop, show p + (i - p) = i from by omega]
      exact iter_at a0 i h
    exact takeWhile_all q _ _ hm
  · intro h
    have key : ∀ (l : List UInt8) (x : UInt8), l[(l.takeWhile q).length]? = some x → q x = false := by
      intro l
      induction l with
      | nil => intro x hx; simp at hx
      | cons a l ih =>
        intro x hx
        by_cases ha : q a = true
        · simp only [List.takeWhile, ha, List.length_cons, List.getElem?_cons_succ] at hx
          exact ih x hx
        · rw [Bool.not_eq_true] at ha
          simp only [List.takeWhile, ha, List.length_nil, List.getElem?_cons_zero, Option.some.injEq] at hx
          rw [← hx]
          exact ha
    refine key (a0.data.toList.drop p) _ ?_
    rw [← hn, List.getElem?_drop]
    exact iter_at a0 (p + n) h

theorem follows_drop (a0 : ByteArray) (p n : Nat) : follows (a0.data.toList.drop p) n = (if h : p + n < a0.size then isWithin (a0[p + n]'h) else false) := by
  unfold follows
  rw [List.getElem?_drop]
  by_cases h : p + n < a0.size
  · rw [dif_pos h, iter_at a0 (p + n) h]
  · rw [dif_neg h, List.getElem?_eq_none (by rw [← Lib.size_eq]; omega)]

def Rest (a0 : ByteArray) (ts : List S30) (p : Nat) : List S30 × Int := match SC (a0.data.toList.drop p) p with
  | none => ([], 3)
  | some l => (ts ++ l, 0)
theorem rest_tok {a0 : ByteArray} {ts : List S30} {p : Nat} (hp : p < a0.size) (hb : isBlank (a0[p]'hp) = false) (t : S30) (ht : tok (a0.data.toList.drop p) p = some t) : Rest a0 ts p = Rest a0 (ts ++ [t]) (p + t.f1.size) := by
  unfold Rest
  rw [drop_cons a0 p hp] at ht ⊢
  rw [SC_tok _ _ _ hb, ht]
  simp only []
  rw [← drop_cons a0 p hp, List.drop_drop]
  cases SC (a0.data.toList.drop (p + t.f1.size)) (p + t.f1.size) with
  | none => rfl
  | some l => simp
theorem rest_err {a0 : ByteArray} {ts : List S30} {p : Nat} (hp : p < a0.size) (hb : isBlank (a0[p]'hp) = false) (ht : tok (a0.data.toList.drop p) p = none) : Rest a0 ts p = ([], 3) := by
  unfold Rest
  rw [drop_cons a0 p hp] at ht ⊢
  rw [SC_tok _ _ _ hb, ht]

theorem ref_loop (a0 : ByteArray) (hl : a0.size ≤ 1500) : ∀ (d p : Nat) (ts : List S30) (k : Nat), a0.size - p ≤ d → p ≤ a0.size → ts.length ≤ p → 6 * (a0.size - p) + 30 ≤ k →
    bootchainref12_Tokens.l0 k a0 ts (p : Int) = some (Rest a0 ts p) := by
  intro d
  induction d with
  | zero =>
    intro p ts k hd hp hts hk
    obtain ⟨k, rfl⟩ : ∃ m, k = m + 1 := ⟨k - 1, by omega⟩
    obtain rfl : p = a0.size := by omega
    simp only [bootchainref12_Tokens.l0]
    rw [if_neg (by omega)]
    unfold Rest
    rw [List.drop_eq_nil_of_le (by rw [← Lib.size_eq]; omega), SC_nil]
    simp
  | succ d ih =>
    intro p ts k hd hp hts hk
    by_cases hlt : p < a0.size
    rotate_left
    · exact ih p ts k (by omega) hp hts (by omega)
    obtain ⟨k, rfl⟩ : ∃ m, k = m + 1 := ⟨k - 1, by omega⟩
    simp only [bootchainref12_Tokens.l0]
    rw [if_pos (by omega), if_pos (by omega), bt_get a0 p hlt, class_eq k (by omega), wrap_small ((p : Int) + 1) (by omega) (by omega)]
    simp only [Option.bind_some]
    have hdc := drop_cons a0 p hlt
    by_cases hb : isBlank (a0[p]'hlt) = true
    · obtain ⟨g1, g2⟩ := blank_not hb
      rw [if_pos (cls_blank g1 g2 hb), show (p : Int) + 1 = ((p + 1 : Nat) : Int) from by omega]
      rw [ih (p + 1) ts k (by omega) (by omega) (by omega) (by omega)]
      unfold Rest
      rw [hdc, SC_blank _ _ _ hb]
    · rw [Bool.not_eq_true] at hb
      by_cases hlet : isLetter (a0[p]'hlt) = true
      · -- a name
        have hc := cls_letter hlet
        rw [hc, if_neg (by omega), if_neg (by omega), if_neg (by omega), show (p : Int) + 1 = ((p + 1 : Nat) : Int) from by omega]
        obtain ⟨n, hn⟩ : ∃ n, n = ((a0.data.toList.drop p).takeWhile isWithin).length := ⟨_, rfl⟩
        obtain ⟨h1, h2, h3, h4⟩ := run_spec a0 isWithin p n hn (by omega)
        have hn1 : 1 ≤ n := by rw [hn, hdc]; simp [List.takeWhile, letter_within hlet]
        have htok : tok (a0.data.toList.drop p) p = if n ≤ 12 then some ⟨1, a0.extract ((p : Int)).toNat (((p + n : Nat) : Int)).toNat, 0, (p : Int)⟩ else none := by
          rw [extract_nat, h4, hn, hdc]
          simp only [tok, hlet, if_true, tk]
          rfl
        refine l1_name a0 hl ts p (p + n) (Rest a0 ts p) (6 * (a0.size - (p + n)) + 32) h1 ?_ h3 (p + n - (p + 1)) (p + 1) k rfl (by omega) (fun i h g1 g2 => h2 i h (by omega) g2) (by omega)
        intro k hk
        obtain ⟨k, rfl⟩ : ∃ m, k = m + 2 := ⟨k - 2, by omega⟩
        simp only [bootchainref12_Tokens.j2, bootchainref12_Tokens.j3]
        rw [if_pos (by omega), if_pos (by omega), if_pos (by omega), if_pos (by trivial), wrap_small _ (by omega) (by omega)]
        by_cases h12 : n ≤ 12
        · have hf : decide ((((p + n : Nat) : Int) - (p : Int)) > 12) = false := by rw [decide_eq_false_iff_not]; omega
          rw [hf, if_neg (by simp), if_neg (by omega), if_pos (by omega)]
          rw [if_pos h12] at htok
          have hsz : (a0.extract ((p : Int)).toNat (((p + n : Nat) : Int)).toNat).size = n := by
            rw [extract_nat]
            show ((a0.data.toList.drop p).take n).length = n
            rw [List.length_take, List.length_drop, ← Lib.size_eq]
            omega
          have hr := rest_tok (ts := ts) hlt hb _ htok
          rw [hr]
          simp only [hsz]
          exact ih (p + n) _ k (by omega) h1 (by rw [List.length_append, List.length_singleton]; omega) (by omega)
        · have hf : decide ((((p + n : Nat) : Int) - (p : Int)) > 12) = true := by rw [decide_eq_true_eq]; omega
          rw [hf, if_pos (by trivial)]
          rw [if_neg h12] at htok
          rw [rest_err hlt hb htok]
      · rw [Bool.not_eq_true] at hlet
        by_cases hdig : isDigit (a0[p]'hlt) = true
        · -- a number
          have hc := cls_digit hlet hdig
          rw [hc, if_neg (by omega), if_neg (by omega), if_neg (by omega), show (p : Int) + 1 = ((p + 1 : Nat) : Int) from by omega]
          obtain ⟨n, hn⟩ : ∃ n, n = ((a0.data.toList.drop p).takeWhile isDigit).length := ⟨_, rfl⟩
          obtain ⟨h1, h2, h3, h4⟩ := run_spec a0 isDigit p n hn (by omega)
          have hn1 : 1 ≤ n := by rw [hn, hdc]; simp [List.takeWhile, hdig]
          have hne : (a0.data.toList.drop p).takeWhile isDigit ≠ [] := by
            intro e
            rw [e] at hn
            simp at hn
            omega
          have hD := digits_take (a0.data.toList.drop p)
          have htok : tok (a0.data.toList.drop p) p = if numOk (a0.data.toList.drop p) ((a0.data.toList.drop p).takeWhile isDigit) = true then some ⟨2, a0.extract ((p : Int)).toNat (((p + n : Nat) : Int)).toNat, (val ((a0.data.toList.drop p).takeWhile isDigit) : Int), (p : Int)⟩ else none := by
            rw [extract_nat, h4, hdc]
            simp only [tok, hlet, hdig, if_true, Bool.false_eq_true, if_false, tk]
          have hW : (a0.extract ((p : Int)).toNat (((p + n : Nat) : Int)).toNat).data.toList = (a0.data.toList.drop p).takeWhile isDigit := by rw [extract_nat, h4]
          refine l1_num a0 hl ts p (p + n) (Rest a0 ts p) (6 * (a0.size - (p + n)) + 32) h1 ?_ h3 (p + n - (p + 1)) (p + 1) k rfl (by omega) (fun i h g1 g2 => h2 i h (by omega) g2) (by omega)
          intro k hk
          obtain ⟨k, rfl⟩ : ∃ m, k = m + 2 := ⟨k - 2, by omega⟩
          simp only [bootchainref12_Tokens.j2, bootchainref12_Tokens.j3]
          rw [if_pos (by omega), if_pos (by omega), if_pos (by omega), if_neg (by omega), if_neg (by simp), if_pos (by trivial), if_pos (by omega), if_pos (by omega), if_pos (by omega)]
          rw [number_eq _ (by rw [hW]; exact hD) (by rw [hW]; exact hne) k (by omega), hW]
          simp only [Option.bind_some]
          have hfd := follows_drop a0 p n
          by_cases hok : numOk (a0.data.toList.drop p) ((a0.data.toList.drop p).takeWhile isDigit) = true
          · rw [if_pos hok] at htok
            have hsz : (a0.extract ((p : Int)).toNat (((p + n : Nat) : Int)).toNat).size = n := by
              rw [Lib.size_eq, hW, ← hn]
            have hr := rest_tok (ts := ts) hlt hb _ htok
            simp only [hsz] at hr
            unfold numOk at hok
            simp only [Bool.and_eq_true, decide_eq_true_eq, Bool.or_eq_true, bne_iff_ne, Bool.not_eq_true', ← hn] at hok
            obtain ⟨k5, kv, kz, kf⟩ := hok
            have hnS : numS ((a0.data.toList.drop p).takeWhile isDigit) = (val ((a0.data.toList.drop p).takeWhile isDigit) : Int) := by
              unfold numS
              rw [if_pos ⟨by omega, by rw [← hn]; exact kz, kv⟩]
            have hih := ih (p + n) (ts ++ [⟨2, a0.extract ((p : Int)).toNat (((p + n : Nat) : Int)).toNat, (val ((a0.data.toList.drop p).takeWhile isDigit) : Int), (p : Int)⟩]) k (by omega) h1 (by rw [List.length_append, List.length_singleton]; omega) (by omega)
            rw [hnS, hr]
            by_cases he : p + n < a0.size
            · rw [if_pos (by omega), if_pos (by omega), bt_get a0 (p + n) he, class_eq k (by omega)]
              simp only [Option.bind_some]
              rw [kf, dif_pos he] at hfd
              have hw := within_iff (a0[p + n]'he)
              rw [if_neg (by omega), if_neg (fun h => by rw [cls_one] at h; rw [hw.2 (.inl h)] at hfd; cases hfd), if_neg (fun h => by rw [cls_three] at h; rw [hw.2 (.inr (.inr h))] at hfd; cases hfd), if_pos (by omega)]
              exact hih
            · rw [if_neg (by omega), if_neg (by omega), if_neg (by omega), if_neg (by omega), if_pos (by omega)]
              exact hih
          · rw [if_neg hok] at htok
            rw [rest_err hlt hb htok]
            by_cases hneg : numS ((a0.data.toList.drop p).takeWhile isDigit) < 0
            · by_cases he : p + n < a0.size
              · rw [if_pos (by omega), if_pos (by omega), bt_get a0 (p + n) he, class_eq k (by omega)]
                simp only [Option.bind_some]
                rw [if_pos hneg]
              · rw [if_neg (by omega), if_pos hneg]
            · -- the number is well-formed, so a name follows
              have hS : ((a0.data.toList.drop p).takeWhile isDigit).length ≤ 5 ∧ (((a0.data.toList.drop p).takeWhile isDigit).head? ≠ some 48 ∨ ((a0.data.toList.drop p).takeWhile isDigit).length = 1) ∧ val ((a0.data.toList.drop p).takeWhile isDigit) < 65536 := by
                false_or_by_contra
                rename_i hno
                apply hneg
                unfold numS
                rw [if_neg hno]
                omega
              have hf : follows (a0.data.toList.drop p) n = true := by
                false_or_by_contra
                rename_i hno
                apply hok
                unfold numOk
                simp only [Bool.and_eq_true, decide_eq_true_eq, Bool.or_eq_true, bne_iff_ne, Bool.not_eq_true', ← hn]
                rw [Bool.not_eq_true] at hno
                exact ⟨by have := hS.1; omega, hS.2.2, by have := hS.2.1; rw [← hn] at this; exact this, hno⟩
              rw [hf] at hfd
              by_cases he : p + n < a0.size
              · rw [dif_pos he] at hfd
                rw [if_pos (by omega), if_pos (by omega), bt_get a0 (p + n) he, class_eq k (by omega)]
                simp only [Option.bind_some]
                rw [if_neg hneg]
                rcases (within_iff _).1 hfd.symm with h | h | h
                · rw [if_pos ((cls_one _).2 h)]
                · exact absurd h (by rw [h3 he]; simp)
                · rw [if_neg (by rw [(cls_three _).2 h]; omega), if_pos ((cls_three _).2 h)]
              · rw [dif_neg he] at hfd
                cases hfd
        · rw [Bool.not_eq_true] at hdig
          have htk : tok (a0.data.toList.drop p) p = (opsL.find? (fun o => o.isPrefixOf (a0.data.toList.drop p))).map fun o => tk 3 o 0 p := by
            rw [hdc]
            simp only [tok, hlet, hdig, Bool.false_eq_true, if_false]
          by_cases h95 : (a0[p]'hlt).toNat = 95
          · rw [cls_us hlet hdig h95, if_neg (by omega), if_pos (by trivial)]
            have hc95 : a0[p]'hlt = 95 := UInt8.toNat_inj.1 (by rw [h95]; rfl)
            have hnone : opsL.find? (fun o => o.isPrefixOf (a0.data.toList.drop p)) = none := by
              rw [hdc, find_ops, hc95]
              simp
            rw [hnone] at htk
            rw [rest_err hlt hb htk]
          · rw [cls_other hlet hdig h95 hb, if_neg (by omega), if_neg (by omega), if_pos (by trivial), sign_eq a0 hl p hlt k (by omega)]
            simp only [Option.bind_some]
            unfold signS
            cases hf : opsL.find? (fun o => o.isPrefixOf (a0.data.toList.drop p)) with
            | none =>
              rw [hf] at htk
              simp only []
              rw [if_pos (by trivial), rest_err hlt hb htk]
            | some o =>
              rw [hf] at htk
              have hpre := List.find?_some hf
              have hm := List.mem_of_find?_eq_some hf
              have ho1 := ops_len hm
              obtain ⟨g1, g2⟩ := isPrefix_take hpre
              rw [List.length_drop, ← Lib.size_eq] at g1
              simp only []
              rw [if_neg (by omega), wrap_small _ (by omega) (by omega), if_pos (by omega), if_pos (by omega), if_pos (by omega)]
              have ht2 : tok (a0.data.toList.drop p) p = some ⟨3, a0.extract ((p : Int)).toNat (((p + o.length : Nat) : Int)).toNat, 0, (p : Int)⟩ := by
                rw [htk, extract_nat, g2]
                rfl
              have hsz : (a0.extract ((p : Int)).toNat (((p + o.length : Nat) : Int)).toNat).size = o.length := by
                rw [extract_nat, g2]
                rfl
              have hr := rest_tok (ts := ts) hlt hb _ ht2
              simp only [hsz] at hr
              rw [hr]
              exact ih (p + o.length) _ k (by omega) (by omega) (by rw [List.length_append, List.length_singleton]; omega) (by omega)

theorem ref_tokens_eq (a0 : ByteArray) (hl : a0.size ≤ 1500) (k : Nat) (hk : 6 * a0.size + 40 ≤ k) : bootchainref12_Tokens.f k a0 = some (toks a0) := by
  unfold bootchainref12_Tokens.f
  rw [if_neg (by omega)]
  have h := ref_loop a0 hl a0.size 0 [] k (by omega) (by omega) (by simp) (by omega)
  refine h.trans ?_
  congr 1
  unfold Rest
  rw [List.drop_zero, toks_eq a0 hl]
  cases SC a0.data.toList 0 with
  | none => rfl
  | some l => rfl

theorem same_loop (l : List S30) (hl : l.length ≤ 1000000) : ∀ (d i k : Nat), l.length - i = d → i ≤ l.length → d < k → bootchainref12_Same.l0 k l l (i : Int) = some true := by
  intro d
  induction d with
  | zero =>
    intro i k hd hi hk
    obtain ⟨k, rfl⟩ : ∃ m, k = m + 1 := ⟨k - 1, by omega⟩
    simp only [bootchainref12_Same.l0]
    rw [if_neg (by omega)]
  | succ d ih =>
    intro i k hd hi hk
    obtain ⟨k, rfl⟩ : ∃ m, k = m + 1 := ⟨k - 1, by omega⟩
    simp only [bootchainref12_Same.l0]
    rw [if_pos (by omega), if_pos (by omega), if_pos (by omega), if_neg (by simp), wrap_small _ (by omega) (by omega)]
    exact ih (i + 1) k (by omega) (by omega) (by omega)
theorem same_refl (l : List S30) (hl : l.length ≤ 1000000) (k : Nat) (hk : l.length < k) : bootchainref12_Same.f k l l = some true := by
  unfold bootchainref12_Same.f
  rw [if_pos rfl]
  exact same_loop l hl l.length 0 k (by omega) (by omega) hk

theorem scan_len : ∀ (k : Nat) (l : List UInt8) (p : Nat) (ts : List S30), scan k l p = some ts → ts.length ≤ l.length := by
  intro k
  induction k with
  | zero => intro l p ts h; simp [scan] at h
  | succ k ih =>
    intro l p ts h
    simp only [scan] at h
    by_cases hb : l.dropWhile isBlank = []
    · rw [if_pos hb] at h
      obtain rfl := Option.some.inj h
      simp
    · rw [if_neg hb] at h
      cases ht : tok (l.dropWhile isBlank) (p + (l.length - (l.dropWhile isBlank).length)) with
      | none => rw [ht] at h; simp at h
      | some t =>
        rw [ht] at h
        obtain ⟨_, h1, h2, _⟩ := tok_spec ht
        simp only [] at h
        obtain ⟨l2, hl2, rfl⟩ := Option.map_eq_some_iff.1 h
        have := ih _ _ _ hl2
        have hle := dropWhile_le isBlank l
        rw [List.length_drop] at this
        rw [List.length_cons]
        omega
theorem toks_len (a0 : ByteArray) : (toks a0).1.length ≤ a0.size := by
  unfold toks
  by_cases h : a0.size > 1500
  · rw [if_pos h]; simp
  · rw [if_neg h]
    cases hs : scan (a0.size + 1) a0.data.toList 0 with
    | none => simp
    | some l =>
      have := scan_len _ _ _ _ hs
      rw [← Lib.size_eq] at this
      exact this

/-- THE PLAIN LAW. -/
theorem pure_matches (a0 : ByteArray) : ∃ k, bootchainlaw12_LexMatches.f k a0 = some true := by
  refine ⟨20000, ?_⟩
  unfold bootchainlaw12_LexMatches.f
  rw [sanity_ok 20000 (by omega)]
  simp only [Option.bind_some]
  by_cases h : (a0.size : Int) > 600
  · rw [if_pos h]
  · rw [if_neg h]
    have hlen := toks_len a0
    unfold lex_Tokens.f
    rw [ref_tokens_eq a0 (by omega) 20000 (by omega)]
    simp only [Option.bind_some]
    rw [if_pos (by trivial), if_pos (by trivial), same_refl _ (by omega) 20000 (by omega)]
    rfl

end Go.Proofs.YtgbihkljbpionaaDoor.Q
