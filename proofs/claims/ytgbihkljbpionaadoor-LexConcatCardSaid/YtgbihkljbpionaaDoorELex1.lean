/- Contracts of what lex.Tokens calls: strings.TrimLeft at the three blanks; the tests of a character; lex.prefix. -/
import Derived.Test.YtgbihkljbpionaaDoorPx1
import Derived.Test.YtgbihkljbpionaaDoorESpec
import Derived.Test.YtgbihkljbpionaaDoorEShelf
import Derived.Lib.OthersKept
import Derived.Laws.RangeAny
import Derived.WalkSmall
import Derived.WalkSpells
import Derived.Deep.LoopGhost
import Derived.Lib.Hide
namespace Go.Proofs.YtgbihkljbpionaaDoor.Q
open Go.RowKit Go.Proofs.YtgbihkljbpionaaDoorW.PrintWords
set_option linter.unusedVariables false
set_option linter.unusedSimpArgs false

theorem trim_calls (s : ByteArray) (w : World) :
    Calls Tryd.prog 18 #[.string s, .string ⟨#[32, 9, 10]⟩] w fun e w' => e = .returned (.string ⟨(s.data.toList.dropWhile isBlank).toArray⟩) ∧ Below w.heap.size w w' :=
  Any.strings_TrimLeft_laid Tryd.lays161 (by kernel_rfl) s ⟨#[32, 9, 10]⟩ w (by decide) (ascii_of_all (by decide))

theorem byte_le (c : UInt8) (n : Nat) (h : n < 256) : (UInt8.ofNat n ≤ c) ↔ n ≤ c.toNat := by
  rw [UInt8.le_iff_toNat_le]; simp [Nat.mod_eq_of_lt h]

theorem letter_eq (n : Nat) : P.lex_letter.f (n : Int) = some ((decide (97 ≤ n) && decide (n ≤ 122)) || (decide (65 ≤ n) && decide (n ≤ 90))) := by
  unfold P.lex_letter.f
  repeat' split
  all_goals
    congr 1
    rw [Bool.eq_iff_iff]
    simp only [Bool.or_eq_true, Bool.and_eq_true, decide_eq_true_eq, true_iff, Bool.false_eq_true, false_iff, not_or, not_and]
    omega
theorem digit_eq (n : Nat) : P.lex_digit.f (n : Int) = some (decide (48 ≤ n) && decide (n ≤ 57)) := by
  unfold P.lex_digit.f
  repeat' split
  all_goals
    congr 1
    rw [Bool.eq_iff_iff]
    simp only [Bool.or_eq_true, Bool.and_eq_true, decide_eq_true_eq, true_iff, Bool.false_eq_true, false_iff, not_or, not_and]
    omega
theorem within_eq (n : Nat) : P.lex_within.f (n : Int) = some ((((decide (97 ≤ n) && decide (n ≤ 122)) || (decide (65 ≤ n) && decide (n ≤ 90))) || (decide (48 ≤ n) && decide (n ≤ 57))) || decide (n = 95)) := by
  unfold P.lex_within.f
  rw [letter_eq, digit_eq]
  simp only [Option.bind_some]
  repeat' split
  all_goals
    congr 1
    rw [Bool.eq_iff_iff]
    simp only [Bool.or_eq_true, Bool.and_eq_true, decide_eq_true_eq, true_iff, Bool.false_eq_true, false_iff, not_or, not_and, beq_iff_eq] at *
    omega

theorem within_calls (n : Nat) (w : World) : Calls Tryd.prog 22 #[.int .i32 (n : Int)] w fun e w' => e = .returned (.bool ((((decide (97 ≤ n) && decide (n ≤ 122)) || (decide (65 ≤ n) && decide (n ≤ 90))) || (decide (48 ≤ n) && decide (n ≤ 57))) || decide (n = 95))) ∧ Drawn0 w w' :=
  P.lex_within.calls _ _ w (within_eq n)
theorem digit_calls (n : Nat) (w : World) : Calls Tryd.prog 23 #[.int .i32 (n : Int)] w fun e w' => e = .returned (.bool (decide (48 ≤ n) && decide (n ≤ 57))) ∧ Drawn0 w w' :=
  P.lex_digit.calls _ _ w (digit_eq n)
theorem letter_calls (n : Nat) (w : World) : Calls Tryd.prog 20 #[.int .i32 (n : Int)] w fun e w' => e = .returned (.bool ((decide (97 ≤ n) && decide (n ≤ 122)) || (decide (65 ≤ n) && decide (n ≤ 90)))) ∧ Drawn0 w w' :=
  P.lex_letter.calls _ _ w (letter_eq n)

theorem takeWhile_len {α : Type} (q : α → Bool) : ∀ (l : List α) (k : Nat), k ≤ l.length → (∀ i x, i < k → l[i]? = some x → q x = true) → (∀ x, l[k]? = some x → q x = false) → (l.takeWhile q).length = k
  | [], k, hk, _, _ => by simp at hk; subst hk; rfl
  | a :: l, 0, _, _, h2 => by
    have := h2 a rfl
    simp [List.takeWhile, this]
  | a :: l, k + 1, hk, h1, h2 => by
    have ha := h1 0 a (by omega) rfl
    have ih := takeWhile_len q l k (by simpa using hk) (fun i x hi hx => h1 (i + 1) x (by omega) (by simpa using hx)) (fun x hx => h2 x (by simpa using hx))
    simp [List.takeWhile, ha, ih]

theorem iter_at (s : ByteArray) (i : Nat) (h : i < s.size) : s.data.toList[i]? = some (s[i]'h) := by
  rw [List.getElem?_eq_getElem (by simpa using h)]
  rfl

theorem within_hi (n : Nat) (h : 128 ≤ n) : ((((decide (97 ≤ n) && decide (n ≤ 122)) || (decide (65 ≤ n) && decide (n ≤ 90))) || (decide (48 ≤ n) && decide (n ≤ 57))) || decide (n = 95)) = false := by
  rw [Bool.eq_false_iff]
  simp only [ne_eq, Bool.or_eq_true, Bool.and_eq_true, decide_eq_true_eq]
  omega
theorem digit_hi (n : Nat) (h : 128 ≤ n) : (decide (48 ≤ n) && decide (n ≤ 57)) = false := by
  rw [Bool.eq_false_iff]
  simp only [ne_eq, Bool.and_eq_true, decide_eq_true_eq]
  omega

def Scanned (q : UInt8 → Bool) (s : ByteArray) (pos : Nat) : Prop := ∀ i x, i < pos → s.data.toList[i]? = some x → q x = true
theorem scanned_next {q : UInt8 → Bool} {s : ByteArray} {pos : Nat} (h : Scanned q s pos) (hp : pos < s.size) (hq : q (s[pos]'hp) = true) : Scanned q s (pos + 1) := by
  intro i x hi hx
  by_cases hlt : i < pos
  · exact h i x hlt hx
  · obtain rfl : i = pos := by omega
    rw [iter_at s i hp] at hx
    obtain rfl := Option.some.inj hx
    exact hq
theorem scanned_stop {q : UInt8 → Bool} {s : ByteArray} {pos : Nat} (h : Scanned q s pos) (hp : pos ≤ s.size) (hq : ∀ h : pos < s.size, q (s[pos]'h) = false) : (s.data.toList.takeWhile q).length = pos := by
  refine takeWhile_len q _ pos (by simpa using hp) h fun x hx => ?_
  have hlt : pos < s.size := by
    have := (List.getElem?_eq_some_iff.1 hx).1
    simpa using this
  rw [iter_at s pos hlt] at hx
  obtain rfl := Option.some.inj hx
  exact hq hlt

set_option maxHeartbeats 400000 in
/-- lex.prefix at the test 'isWithin'. -/
theorem prefix_within (s : ByteArray) (w : World) (hs : s.size ≤ 9223372036854775807) :
    Calls Tryd.prog 21 #[.string s, .func (.func 22) #[] #[]] w fun e w' => e = .returned (.int .i64 ((s.data.toList.takeWhile isWithin).length : Nat)) ∧ Below w.heap.size w w' := by
  go_enter Tryd.func21, Tryd.ntmps21
  go_wp2
  go_loopg [] s.size (fun k wr => ∃ pos : Nat, wr.heap[w.heap.size]? = some (.stringIter s pos) ∧ Aside0 (pos + k = s.size) ∧ Aside0 (Below w.heap.size w wr) ∧ Aside0 (Scanned isWithin s pos))
  case atStart => exact ⟨0, World.iter_heap w s 0, ⟨by omega⟩, ⟨(Below.refl _ _).alloc (Nat.le_refl _) _⟩, ⟨fun i x hi _ => by omega⟩⟩
  case round =>
    obtain ⟨pos, hit, HN, HB, HS⟩ := hrel
    by_cases hp : pos < s.size
    · by_cases ha : (s[pos]'hp).toNat < 128
      · have hnx : ∀ ty, (Instr.next (.pointer (some ⟨w.heap.size, 0, none⟩)) true ty).run Tryd.prog wr = _ := fun ty => Lib.run_next_ascii_at wr w.heap.size s pos ty hit hp ha
        have hit2 := Lib.iterAt_heap wr w.heap.size s pos (pos + 1) hit
        have HB2 := Aside0.mk (Lib.below_iterAt HB.out (k := w.heap.size) (Nat.le_refl _) s (pos + 1))
        obtain ⟨W1, hW1⟩ : ∃ W1, W1 = wr.iterAt w.heap.size s (pos + 1) := ⟨_, rfl⟩
        rw [← hW1] at hnx hit2 HB2
        clear hW1 hit HB
        obtain ⟨n, hn⟩ : ∃ n : Nat, n = (s[pos]'hp).toNat := ⟨_, rfl⟩
        rw [← hn] at hnx
        have HQ := Aside0.mk (show isWithin (s[pos]'hp) = (((((decide (97 ≤ n) && decide (n ≤ 122)) || (decide (65 ≤ n) && decide (n ≤ 90))) || (decide (48 ≤ n) && decide (n ≤ 57))) || decide (n = 95))) by unfold isWithin isLetter isDigit; rw [hn])
        clear hn
        cases hq : (((((decide (97 ≤ n) && decide (n ≤ 122)) || (decide (65 ≤ n) && decide (n ≤ 90))) || (decide (48 ≤ n) && decide (n ≤ 57))) || decide (n = 95))) with
        | true =>
          rw [hq] at HQ
          have hc := fun W => within_calls n W
          rw [hq] at hc
          have Hc := Lib.hid hc
          clear hc hq
          go_wp2_with (go_at_call 22; refine (Hc.out _).mono ?_; rintro e w' ⟨rfl, ⟨nd, rfl⟩⟩)
          go_roundg (gk - 1)
          case measure => have := HN.out; omega
          case rel => exact ⟨pos + 1, hit2, ⟨by have := HN.out; omega⟩, ⟨pw_below_drewN HB2.out _⟩, ⟨scanned_next HS.out hp HQ.out⟩⟩
        | false =>
          rw [hq] at HQ
          have hc := fun W => within_calls n W
          rw [hq] at hc
          have Hc := Lib.hid hc
          clear hc hq
          go_wp2_with (go_at_call 22; refine (Hc.out _).mono ?_; rintro e w' ⟨rfl, ⟨nd, rfl⟩⟩)
          go_ret
          exact ⟨by rw [scanned_stop HS.out (by omega) (fun _ => HQ.out)]; rfl, pw_below_drewN HB2.out _⟩
      · have hhi := (decode_high s pos hp (by omega)).1
        have hnx : ∀ ty, (Instr.next (.pointer (some ⟨w.heap.size, 0, none⟩)) true ty).run Tryd.prog wr = _ := fun ty => Lib.run_next_any_at wr w.heap.size s pos ty hit hp
        have HB2 := Aside0.mk (Lib.below_iterAt HB.out (k := w.heap.size) (Nat.le_refl _) s (pos + (Utf8.decode s pos).2))
        obtain ⟨W1, hW1⟩ : ∃ W1, W1 = wr.iterAt w.heap.size s (pos + (Utf8.decode s pos).2) := ⟨_, rfl⟩
        rw [← hW1] at hnx HB2
        clear hW1 hit HB
        generalize (Utf8.decode s pos).1 = n at hhi hnx
        have hc := fun W => within_calls n W
        rw [within_hi n hhi] at hc
        have Hc := Lib.hid hc
        clear hc hhi
        have HA := Aside0.mk (show isWithin (s[pos]'hp) = false from within_hi _ (by omega))
        clear ha
        go_wp2_with (go_at_call 22; refine (Hc.out _).mono ?_; rintro e w' ⟨rfl, ⟨nd, rfl⟩⟩)
        go_ret
        exact ⟨by rw [scanned_stop HS.out (by omega) (fun _ => HA.out)]; rfl, pw_below_drewN HB2.out _⟩
    · have hnx : ∀ ty, (Instr.next (.pointer (some ⟨w.heap.size, 0, none⟩)) true ty).run Tryd.prog wr = _ := fun ty => Lib.run_next_end_at wr w.heap.size s pos ty hit hp
      have HP := Aside0.mk hp
      clear hit hp
      go_wp2
      go_ret
      exact ⟨by rw [scanned_stop HS.out (by have := HN.out; omega) (fun h => absurd h HP.out), show pos = s.size from by have := HN.out; have := HP.out; omega]; rfl, HB.out⟩

set_option maxHeartbeats 400000 in
/-- lex.prefix at the test 'isDigit'. -/
theorem prefix_digit (s : ByteArray) (w : World) (hs : s.size ≤ 9223372036854775807) :
    Calls Tryd.prog 21 #[.string s, .func (.func 23) #[] #[]] w fun e w' => e = .returned (.int .i64 ((s.data.toList.takeWhile isDigit).length : Nat)) ∧ Below w.heap.size w w' := by
  go_enter Tryd.func21, Tryd.ntmps21
  go_wp2
  go_loopg [] s.size (fun k wr => ∃ pos : Nat, wr.heap[w.heap.size]? = some (.stringIter s pos) ∧ Aside0 (pos + k = s.size) ∧ Aside0 (Below w.heap.size w wr) ∧ Aside0 (Scanned isDigit s pos))
  case atStart => exact ⟨0, World.iter_heap w s 0, ⟨by omega⟩, ⟨(Below.refl _ _).alloc (Nat.le_refl _) _⟩, ⟨fun i x hi _ => by omega⟩⟩
  case round =>
    obtain ⟨pos, hit, HN, HB, HS⟩ := hrel
    by_cases hp : pos < s.size
    · by_cases ha : (s[pos]'hp).toNat < 128
      · have hnx : ∀ ty, (Instr.next (.pointer (some ⟨w.heap.size, 0, none⟩)) true ty).run Tryd.prog wr = _ := fun ty => Lib.run_next_ascii_at wr w.heap.size s pos ty hit hp ha
        have hit2 := Lib.iterAt_heap wr w.heap.size s pos (pos + 1) hit
        have HB2 := Aside0.mk (Lib.below_iterAt HB.out (k := w.heap.size) (Nat.le_refl _) s (pos + 1))
        obtain ⟨W1, hW1⟩ : ∃ W1, W1 = wr.iterAt w.heap.size s (pos + 1) := ⟨_, rfl⟩
        rw [← hW1] at hnx hit2 HB2
        clear hW1 hit HB
        obtain ⟨n, hn⟩ : ∃ n : Nat, n = (s[pos]'hp).toNat := ⟨_, rfl⟩
        rw [← hn] at hnx
        have HQ := Aside0.mk (show isDigit (s[pos]'hp) = ((decide (48 ≤ n) && decide (n ≤ 57))) by unfold isDigit; rw [hn])
        clear hn
        cases hq : ((decide (48 ≤ n) && decide (n ≤ 57))) with
        | true =>
          rw [hq] at HQ
          have hc := fun W => digit_calls n W
          rw [hq] at hc
          have Hc := Lib.hid hc
          clear hc hq
          go_wp2_with (go_at_call 23; refine (Hc.out _).mono ?_; rintro e w' ⟨rfl, ⟨nd, rfl⟩⟩)
          go_roundg (gk - 1)
          case measure => have := HN.out; omega
          case rel => exact ⟨pos + 1, hit2, ⟨by have := HN.out; omega⟩, ⟨pw_below_drewN HB2.out _⟩, ⟨scanned_next HS.out hp HQ.out⟩⟩
        | false =>
          rw [hq] at HQ
          have hc := fun W => digit_calls n W
          rw [hq] at hc
          have Hc := Lib.hid hc
          clear hc hq
          go_wp2_with (go_at_call 23; refine (Hc.out _).mono ?_; rintro e w' ⟨rfl, ⟨nd, rfl⟩⟩)
          go_ret
          exact ⟨by rw [scanned_stop HS.out (by omega) (fun _ => HQ.out)]; rfl, pw_below_drewN HB2.out _⟩
      · have hhi := (decode_high s pos hp (by omega)).1
        have hnx : ∀ ty, (Instr.next (.pointer (some ⟨w.heap.size, 0, none⟩)) true ty).run Tryd.prog wr = _ := fun ty => Lib.run_next_any_at wr w.heap.size s pos ty hit hp
        have HB2 := Aside0.mk (Lib.below_iterAt HB.out (k := w.heap.size) (Nat.le_refl _) s (pos + (Utf8.decode s pos).2))
        obtain ⟨W1, hW1⟩ : ∃ W1, W1 = wr.iterAt w.heap.size s (pos + (Utf8.decode s pos).2) := ⟨_, rfl⟩
        rw [← hW1] at hnx HB2
        clear hW1 hit HB
        generalize (Utf8.decode s pos).1 = n at hhi hnx
        have hc := fun W => digit_calls n W
        rw [digit_hi n hhi] at hc
        have Hc := Lib.hid hc
        clear hc hhi
        have HA := Aside0.mk (show isDigit (s[pos]'hp) = false from digit_hi _ (by omega))
        clear ha
        go_wp2_with (go_at_call 23; refine (Hc.out _).mono ?_; rintro e w' ⟨rfl, ⟨nd, rfl⟩⟩)
        go_ret
        exact ⟨by rw [scanned_stop HS.out (by omega) (fun _ => HA.out)]; rfl, pw_below_drewN HB2.out _⟩
    · have hnx : ∀ ty, (Instr.next (.pointer (some ⟨w.heap.size, 0, none⟩)) true ty).run Tryd.prog wr = _ := fun ty => Lib.run_next_end_at wr w.heap.size s pos ty hit hp
      have HP := Aside0.mk hp
      clear hit hp
      go_wp2
      go_ret
      exact ⟨by rw [scanned_stop HS.out (by have := HN.out; omega) (fun h => absurd h HP.out), show pos = s.size from by have := HN.out; have := HP.out; omega]; rfl, HB.out⟩

end Go.Proofs.YtgbihkljbpionaaDoor.Q
