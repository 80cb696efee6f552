/- The contract of lex.Tokens, at every text: the scan's tokens, or the error. -/
import Derived.Test.YtgbihkljbpionaaDoorEScan
import Derived.Test.YtgbihkljbpionaaDoorEOps
namespace Go.Proofs.YtgbihkljbpionaaDoor.Q
open Go.RowKit Go.Proofs.YtgbihkljbpionaaDoorW.PrintWords Go.Proofs.YtgbihkljbpionaaDoorW.PrintLast
set_option linter.unusedVariables false
set_option linter.unusedSimpArgs false

def TokPost (a0 : ByteArray) (w : World) (e : Ending) (w' : World) : Prop :=
  ∃ v0_ : Value, e = .returned (.tuple #[v0_, .int .i64 (toks a0).2]) ∧ Kd.R k30 30 w' w.heap.size (fun _ => True) v0_ (toks a0).1 ∧ Below w.heap.size w w'
def TokRel (a0 : ByteArray) (w : World) (k : Nat) (v4 : Value) (wr : World) : Prop :=
  ∃ (ts : List S30) (p : Nat), lex_at.f ts = some (p : Int) ∧ p ≤ a0.size ∧ p + k = a0.size + 1 ∧ ts.length ≤ p ∧ Kd.R k30 30 wr w.heap.size (fun _ => True) v4 ts ∧ Below w.heap.size w wr ∧ TokInv a0 ts p

theorem rel_next {a0 : ByteArray} {w wr : World} {k p : Nat} {v4 : Value} {ts : List S30} {S : ByteArray} {t : S30} (hI : TokInv a0 ts p) (hp : p ≤ a0.size)
    (hSL : S.data.toList = (a0.data.toList.drop p).dropWhile isBlank) (hne : S.data.toList ≠ []) (hSz : S.size ≤ a0.size - p) (ht : tok S.data.toList (a0.size - S.size) = some t) (hk : p + k = a0.size + 1) (hts : ts.length ≤ p) (hl : a0.size ≤ 1500)
    (hO : Kd.R k30 30 wr w.heap.size (fun _ => True) v4 (ts ++ [t])) (hB : Below w.heap.size w wr) : ∃ k', k' < k ∧ TokRel a0 w k' v4 wr := by
  obtain ⟨h1, h2, h3, h4⟩ := inv_next (q := a0.size - S.size) hI hp hSL.symm hne (by rw [← Lib.size_eq]; omega) ht
  obtain ⟨g3, g1, g2, gf⟩ := tok_spec ht
  refine ⟨a0.size + 1 - (a0.size - S.size + t.f1.size), by omega, ts ++ [t], a0.size - S.size + t.f1.size, ?_, h2, by omega, by rw [List.length_append, List.length_singleton]; omega, hO, hB, h1⟩
  exact at_snoc ts t _ _ g3 rfl (by omega) (by omega)

theorem tok_letter {S : ByteArray} {c : UInt8} {k q : Nat} (hc : S.data.toList[0]? = some c) (hl : isLetter c = true) (hk : k = (S.data.toList.takeWhile isWithin).length) (h12 : k ≤ 12) (x : Int) (hx : x = (q : Int)) :
    tok S.data.toList q = some ⟨1, S.extract 0 k, 0, x⟩ := by
  subst hx
  cases hS : S.data.toList with
  | nil => rw [hS] at hc; simp at hc
  | cons a r =>
    rw [hS] at hc hk
    obtain rfl : a = c := by simpa using hc
    simp only [tok, hl, if_true, tk]
    rw [if_pos (by rw [← hk]; exact h12), extract_take, hS, hk, takeWhile_take]
    rfl
theorem tok_letter_long {S : ByteArray} {c : UInt8} {k q : Nat} (hc : S.data.toList[0]? = some c) (hl : isLetter c = true) (hk : k = (S.data.toList.takeWhile isWithin).length) (h12 : 12 < k) : tok S.data.toList q = none := by
  cases hS : S.data.toList with
  | nil => rfl
  | cons a r =>
    rw [hS] at hc hk
    obtain rfl : a = c := by simpa using hc
    simp only [tok, hl, if_true]
    rw [if_neg (by rw [← hk]; omega)]

theorem head_digit {S : ByteArray} {c : UInt8} (hc : S.data.toList[0]? = some c) (hd : isDigit c = true) : S.data.toList.takeWhile isDigit ≠ [] := by
  cases hS : S.data.toList with
  | nil => rw [hS] at hc; simp at hc
  | cons a r =>
    rw [hS] at hc
    obtain rfl : a = c := by simpa using hc
    simp [List.takeWhile, hd]
theorem tok_digit {S : ByteArray} {c : UInt8} {q : Nat} (hc : S.data.toList[0]? = some c) (hl : isLetter c = false) (hd : isDigit c = true) (hn : numOk S.data.toList (S.data.toList.takeWhile isDigit) = true) (D : ByteArray) (hD : D = ⟨(S.data.toList.takeWhile isDigit).toArray⟩) (n : Int) (hv : n = (val (S.data.toList.takeWhile isDigit) : Int)) (x : Int) (hx : x = (q : Int)) :
    tok S.data.toList q = some ⟨2, D, n, x⟩ := by
  subst hx hv hD
  cases hS : S.data.toList with
  | nil => rw [hS] at hc; simp at hc
  | cons a r =>
    rw [hS] at hc hn
    obtain rfl : a = c := by simpa using hc
    simp only [tok, hl, hd, if_true, Bool.false_eq_true, if_false, tk]
    rw [if_pos hn]
theorem tok_digit_no {S : ByteArray} {c : UInt8} {q : Nat} (hc : S.data.toList[0]? = some c) (hl : isLetter c = false) (hd : isDigit c = true) (hn : numOk S.data.toList (S.data.toList.takeWhile isDigit) = false) : tok S.data.toList q = none := by
  cases hS : S.data.toList with
  | nil => rfl
  | cons a r =>
    rw [hS] at hc hn
    obtain rfl : a = c := by simpa using hc
    simp only [tok, hl, hd, if_true, Bool.false_eq_true, if_false]
    rw [if_neg (by rw [hn]; simp)]
def NumNo (D : ByteArray) (w : World) (e : Ending) (w' : World) : Prop := ∃ n : Int, e = .returned (.tuple #[.agg #[.int .i64 2, .string D, .int .i64 n, .int .i64 0], .bool false]) ∧ Below w.heap.size w w'

def opAt (i : Nat) : ByteArray := ⟨(opsL.getD i []).toArray⟩
theorem index_ops (i : Nat) (hi : i < 15) : ∀ W, (Instr.index 45 (.agg opsA) (.int .i64 (i : Int))).run Tryd.prog W = .ok (.string (opAt i)) W := by
  intro W
  obtain rfl | rfl | rfl | rfl | rfl | rfl | rfl | rfl | rfl | rfl | rfl | rfl | rfl | rfl | rfl : i = 0 ∨ i = 1 ∨ i = 2 ∨ i = 3 ∨ i = 4 ∨ i = 5 ∨ i = 6 ∨ i = 7 ∨ i = 8 ∨ i = 9 ∨ i = 10 ∨ i = 11 ∨ i = 12 ∨ i = 13 ∨ i = 14 := by omega
  all_goals kernel_rfl
theorem prefix_eq (S : ByteArray) (i : Nat) : P.strings_HasPrefix.f S (opAt i) = some ((opsL.getD i []).isPrefixOf S.data.toList) := by
  unfold P.strings_HasPrefix.f P.stringslite_HasPrefix.f
  have hsz : (opAt i).size = (opsL.getD i []).length := rfl
  rw [hsz]
  by_cases h : (S.size : Int) ≥ ((opsL.getD i []).length : Int)
  · rw [if_pos h, if_pos (by omega), if_pos (by omega)]
    simp only [Option.bind_some]
    congr 1
    rw [extract_take, toList_mk, show (opAt i).toList = opsL.getD i [] from toList_mk _, Bool.eq_iff_iff, beq_iff_eq, List.isPrefixOf_iff_prefix, List.prefix_iff_eq_take]
    exact eq_comm
  · rw [if_neg h]
    simp only [Option.bind_some]
    congr 1
    symm
    rw [Bool.eq_false_iff]
    intro hp
    have := (isPrefix_take hp).1
    rw [← Lib.size_eq] at this
    omega
def OpsRel (S : ByteArray) (w2 : World) (v : Value) (k : Nat) (v4 v64 : Value) (wr : World) : Prop :=
  ∃ i : Nat, v64 = .int .i64 (i : Int) ∧ v4 = v ∧ i + k = 16 ∧ (∀ j, j < i → (opsL.getD j []).isPrefixOf S.data.toList = false) ∧ Below w2.heap.size w2 wr
theorem find_first {α : Type} (q : α → Bool) (d : α) : ∀ (l : List α) (i : Nat), i < l.length → (∀ j, j < i → q (l.getD j d) = false) → q (l.getD i d) = true → l.find? q = some (l.getD i d)
  | [], i, h, _, _ => by simp at h
  | a :: l, 0, _, _, h => by simp at h; simp [h]
  | a :: l, i + 1, hl, h1, h2 => by
    have ha := h1 0 (by omega)
    simp at ha
    have ih := find_first q d l i (by simpa using hl) (fun j hj => by have := h1 (j + 1) (by omega); simpa using this) (by simpa using h2)
    rw [List.find?_cons, ha]
    simpa using ih
theorem find_none {α : Type} (q : α → Bool) (d : α) : ∀ (l : List α), (∀ j, j < l.length → q (l.getD j d) = false) → l.find? q = none
  | [], _ => rfl
  | a :: l, h => by
    have ha := h 0 (by simp)
    simp at ha
    have ih := find_none q d l (fun j hj => by have := h (j + 1) (by simpa using hj); simpa using this)
    rw [List.find?_cons, ha]
    exact ih
theorem tok_op {S : ByteArray} {c : UInt8} {q : Nat} (hc : S.data.toList[0]? = some c) (hl : isLetter c = false) (hd : isDigit c = false) (i : Nat) (hi : i < 15) (hno : ∀ j, j < i → (opsL.getD j []).isPrefixOf S.data.toList = false) (hp : (opsL.getD i []).isPrefixOf S.data.toList = true) (x : Int) (hx : x = (q : Int)) :
    tok S.data.toList q = some ⟨3, opAt i, 0, x⟩ := by
  subst hx
  have hf := find_first (fun o : List UInt8 => o.isPrefixOf S.data.toList) [] opsL i hi hno hp
  cases hS : S.data.toList with
  | nil => rw [hS] at hc; simp at hc
  | cons a r =>
    rw [hS] at hc hf
    obtain rfl : a = c := by simpa using hc
    simp only [tok, hl, hd, Bool.false_eq_true, if_false, tk]
    rw [hf]
    rfl
theorem tok_op_no {S : ByteArray} {c : UInt8} {q : Nat} (hc : S.data.toList[0]? = some c) (hl : isLetter c = false) (hd : isDigit c = false) (hno : ∀ j, j < 15 → (opsL.getD j []).isPrefixOf S.data.toList = false) :
    tok S.data.toList q = none := by
  have hf := find_none (fun o : List UInt8 => o.isPrefixOf S.data.toList) [] opsL hno
  cases hS : S.data.toList with
  | nil => rw [hS] at hc; simp at hc
  | cons a r =>
    rw [hS] at hc hf
    obtain rfl : a = c := by simpa using hc
    simp only [tok, hl, hd, Bool.false_eq_true, if_false, tk]
    rw [hf]
    rfl

set_option maxRecDepth 100000 in
set_option maxHeartbeats 400000 in
theorem tokens_walk (a0 : ByteArray) (w : World) (hT : Tabs w) (hl : a0.size ≤ 1500) : Calls Tryd.prog 10 #[.string a0] w (TokPost a0 w) := by
  have HT := Aside0.mk hT
  clear hT
  have hu30 := Tryd.underlying30
  go_enter Tryd.func10, Tryd.ntmps10
  go_wp2_with fail
  go_step3
  go_wp2_with fail
  go_step3
  go_wp2_with fail
  go_loopg [4] (a0.size + 1) (fun k v4 wr => TokRel a0 w k v4 wr)
  case atStart => exact ⟨[], 0, rfl, by omega, by omega, by simp, Kd.R_nil _ _ _ _ _, Below.refl _ _, inv_start a0 hl⟩
  case round =>
    obtain ⟨ts, p, hat, hp, hk, hts, hO, hB, hI⟩ := hrel
    obtain ⟨A, c, rfl, hc, hC⟩ := Kd.R_reads hO
    have HAT := Lib.hid (fun (wx : World) (h : Below wr.heap.size wr wx) => lex_at.calls A c ts p wx (Kd.C_below hC h) hc hat)
    have HO := Aside0.mk hO
    have HB := Aside0.mk hB
    have HI := Aside0.mk hI
    have HK := Aside0.mk hk
    have HTS := Aside0.mk hts
    obtain ⟨S, hS⟩ : ∃ S : ByteArray, S = ⟨((a0.extract p a0.size).data.toList.dropWhile isBlank).toArray⟩ := ⟨_, rfl⟩
    have HTR := Lib.hid (fun W => trim_calls (a0.extract p a0.size) W)
    rw [← hS] at HTR
    clear hO hB hI hk hat hts hc hC
    go_wp2_with fail
    refine (HAT.out _ (Below.refl _ _)).mono ?_
    rintro e w1 ⟨rfl, hb1⟩
    go_wp2_with fail
    refine (HTR.out _).mono ?_
    rintro e w2 ⟨rfl, hb2⟩
    have HBx := Aside0.mk (hb1.trans (hb2.mono hb1.size))
    have HO2 := Aside0.mk (Kd.R_below HO.out HBx.out)
    have HB2 := Aside0.mk (HB.out.trans (HBx.out.mono HB.out.size))
    clear hb1 hb2 HO HB HBx HAT HTR
    have HSL := Aside0.mk (show S.data.toList = (a0.data.toList.drop p).dropWhile isBlank by
      rw [hS]
      show ((a0.extract p a0.size).data.toList.dropWhile isBlank) = _
      rw [Lib.extract_data, List.take_of_length_le (by rw [List.length_drop, ← Lib.size_eq]; exact Nat.le_refl _)])
    have hSle : S.size ≤ a0.size - p := by
      have h1 := dropWhile_le isBlank (a0.data.toList.drop p)
      rw [← HSL.out, List.length_drop, ← Lib.size_eq, ← Lib.size_eq] at h1
      exact h1
    clear hS
    by_cases h0 : S.size = 0
    · have hnil : S.data.toList = [] := List.eq_nil_of_length_eq_zero (by rw [← Lib.size_eq]; exact h0)
      have hR := inv_end HI.out (by rw [← HSL.out]; exact hnil)
      have HR := Aside0.mk hR
      have hE : S.toList.isEmpty = true := by rw [ByteArray.toList_eq, hnil]; rfl
      have hE2 : S.toList = [] := by rw [ByteArray.toList_eq, hnil]
      clear hnil hR h0
      go_wp2_with fail
      rw [Exit.noGoto_ret]
      go_ret2
      exact ⟨_, by rw [HR.out]; rfl, by rw [HR.out]; exact HO2.out, HB2.out⟩
    · have hpos : 0 < S.size := by omega
      have hposI : (0 < (S.size : Int)) = True := eq_true (by omega)
      have hE : S.toList.isEmpty = false := by
        rw [ByteArray.toList_eq]
        cases hh : S.data.toList with
        | nil => exact absurd (by rw [Lib.size_eq, hh]; rfl) h0
        | cons a b => rfl
      have hE2 : (S.toList = []) = False := eq_false (by intro e; rw [e] at hE; simp at hE)
      have HNE := Aside0.mk (show S.data.toList ≠ [] by intro e; exact h0 (by rw [Lib.size_eq, e]; rfl))
      clear h0
      have HCH := Aside0.mk (iter_at S 0 hpos)
      have HQ := Aside0.mk (show (a0.size - S.size) + S.data.toList.length = a0.size by rw [← Lib.size_eq]; omega)
      have hL := fun W => letter_calls (S[0]'hpos).toNat W
      rw [← w32_byte] at hL
      cases hlet : isLetter (S[0]'hpos) with
      | true =>
        rw [show ((decide (97 ≤ (S[0]'hpos).toNat) && decide ((S[0]'hpos).toNat ≤ 122)) || (decide (65 ≤ (S[0]'hpos).toNat) && decide ((S[0]'hpos).toNat ≤ 90))) = true from hlet] at hL
        have HL := Lib.hid hL
        have HLET := Aside0.mk hlet
        clear hL hlet
        have hP := fun W => prefix_within S W (by omega)
        have hkl := twLen isWithin S.data.toList
        rw [← Lib.size_eq] at hkl
        obtain ⟨k, hk⟩ : ∃ k, k = (S.data.toList.takeWhile isWithin).length := ⟨_, rfl⟩
        rw [← hk] at hP hkl
        have HP := Lib.hid hP
        have HKL := Aside0.mk hk
        clear hk hP
        by_cases h12 : k ≤ 12
        · have h12I : decide (12 < (k : Int)) = false := decide_eq_false (by omega)
          go_wp2_with (first
            | (go_at_call 20; refine (HL.out _).mono ?_; rintro e w3 ⟨rfl, ⟨nd3, rfl⟩⟩)
            | (go_at_call 21; refine (HP.out _).mono ?_; rintro e w4 ⟨rfl, hb4⟩; have HB4 := Aside0.mk (HB2.out.trans ((pw_below_drewN (Below.refl w2.heap.size w2) nd3 |>.trans (show Below w2.heap.size (w2.drewN nd3) w4 from hb4)).mono HB2.out.size)); have HO4 := Aside0.mk (Kd.R_below HO2.out ((pw_below_drewN (Below.refl w2.heap.size w2) nd3).trans (show Below w2.heap.size (w2.drewN nd3) w4 from hb4))); clear hb4)
            | ((with_reducible refine gate_builtin (b := .append) (xs := #[.tmp 39, .tmp 45]) rfl ?_); at_builtin; refine Kd.R_append k30 (w0 := w) w.heap.size rfl (.tmp 39) (.tmp 45) 23 30 (.agg #[(.int .i64 0), (.string ⟨#[]⟩), (.int .i64 0), (.int .i64 0)]) 40 rfl Tryd.underlying23 info30 rfl (by decide) (by omega) (.slice A ts.length c) ts (⟨1, S.extract 0 k, 0, (a0.size : Int) - (S.size : Int)⟩ : S30) [.int .i64 1, .string (S.extract 0 k), .int .i64 0, .int .i64 ((a0.size : Int) - (S.size : Int))] (fun _ => True) (fun _ => False) rfl rfl ?aP (fun _ hk => hk.elim) ?aF ?aO ?aB ?aS ?aL ?_; (case aP => exact k30_mkM _ _ _ _); (case aB => exact (by repeat (first | (with_reducible first | exact HB4.out | apply below_alloc | apply pw_below_drewN | apply below_drew1) | exact HB4.out))); (case aF => exact (fun _ _ => trivial)); (case aO => exact (by (with_reducible repeat (first | apply Kd.R_alloc | apply Kd.R_drewN | apply Kd.R_drew)); exact HO4.out)); (case aS => exact (below_size (by repeat (first | (with_reducible first | exact HB4.out | apply below_alloc | apply pw_below_drewN | apply below_drew1) | exact HB4.out)))); (case aL => have := HTS.out; omega); intro v5 w5 ho hb hg hat; have HB5 := Aside0.mk hb; have HO5 := Aside0.mk ho; clear ho hb hg hat))
          obtain ⟨k', hk', hr'⟩ := rel_next HI.out hp HSL.out HNE.out hSle (tok_letter HCH.out HLET.out HKL.out h12 _ (by omega)) HK.out HTS.out hl HO5.out HB5.out
          go_roundg k'
          case measure => exact hk'
          case rel => exact hr'
        · have h12I : decide (12 < (k : Int)) = true := decide_eq_true (by omega)
          have HR := Aside0.mk (inv_err HI.out (by rw [← HSL.out]; exact HNE.out) (by rw [← HSL.out]; exact tok_letter_long HCH.out HLET.out HKL.out (by omega)))
          go_wp2_with (first
            | (go_at_call 20; refine (HL.out _).mono ?_; rintro e w3 ⟨rfl, ⟨nd3, rfl⟩⟩)
            | (go_at_call 21; refine (HP.out _).mono ?_; rintro e w4 ⟨rfl, hb4⟩; have HB4 := Aside0.mk (HB2.out.trans ((pw_below_drewN (Below.refl w2.heap.size w2) nd3 |>.trans (show Below w2.heap.size (w2.drewN nd3) w4 from hb4)).mono HB2.out.size)); clear hb4))
          rw [Exit.noGoto_ret]
          go_ret2
          exact ⟨_, by rw [HR.out]; rfl, by rw [HR.out]; exact Kd.R_nil _ _ _ _ _, HB4.out⟩
      | false =>
        rw [show ((decide (97 ≤ (S[0]'hpos).toNat) && decide ((S[0]'hpos).toNat ≤ 122)) || (decide (65 ≤ (S[0]'hpos).toNat) && decide ((S[0]'hpos).toNat ≤ 90))) = false from hlet] at hL
        have HL := Lib.hid hL
        have HLET := Aside0.mk hlet
        clear hL hlet
        have hDG := fun W => digit_calls (S[0]'hpos).toNat W
        rw [← w32_byte] at hDG
        cases hdig : isDigit (S[0]'hpos) with
        | true =>
          rw [show (decide (48 ≤ (S[0]'hpos).toNat) && decide ((S[0]'hpos).toNat ≤ 57)) = true from hdig] at hDG
          have HDG := Lib.hid hDG
          have HDIG := Aside0.mk hdig
          clear hDG hdig
          have hN := fun W (h : Tabs W) => number_calls S W h (by omega) (head_digit HCH.out HDIG.out)
          unfold NumPost at hN
          obtain ⟨D, hD⟩ : ∃ D : ByteArray, D = ⟨(S.data.toList.takeWhile isDigit).toArray⟩ := ⟨_, rfl⟩
          rw [← hD] at hN
          have HD := Aside0.mk hD
          clear hD
          cases hok : numOk S.data.toList (S.data.toList.takeWhile isDigit) with
          | true =>
            rw [hok] at hN
            have hN2 : ∀ W, Tabs W → Calls Tryd.prog 24 #[.string S] W fun e w' => e = .returned (.tuple #[.agg #[.int .i64 2, .string D, .int .i64 (val (S.data.toList.takeWhile isDigit) : Int), .int .i64 0], .bool true]) ∧ Below W.heap.size W w' :=
              fun W h => (hN W h).mono fun e w' ⟨n, he, hn, hb⟩ => ⟨by rw [he, hn rfl], hb⟩
            obtain ⟨n, hn⟩ : ∃ n : Int, n = (val (S.data.toList.takeWhile isDigit) : Int) := ⟨_, rfl⟩
            rw [← hn] at hN2
            have HN := Lib.hid hN2
            have HNV := Aside0.mk hn
            have HOK := Aside0.mk hok
            clear hN2 hn hok hN
            go_wp2_with (first
              | (go_at_call 20; refine (HL.out _).mono ?_; rintro e w3 ⟨rfl, ⟨nd3, rfl⟩⟩)
              | (go_at_call 23; refine (HDG.out _).mono ?_; rintro e w3 ⟨rfl, ⟨nd4, rfl⟩⟩)
              | (go_at_call 24; refine (HN.out _ (tabs_step HT.out (pw_below_drewN HB2.out _))).mono ?_; rintro e w4 ⟨rfl, hb4⟩; have HB4 := Aside0.mk (HB2.out.trans ((pw_below_drewN (Below.refl w2.heap.size w2) _ |>.trans (show Below w2.heap.size (w2.drewN _) w4 from hb4)).mono HB2.out.size)); have HO4 := Aside0.mk (Kd.R_below HO2.out ((pw_below_drewN (Below.refl w2.heap.size w2) _).trans (show Below w2.heap.size (w2.drewN _) w4 from hb4))); clear hb4)
              | ((with_reducible refine gate_builtin (b := .append) (xs := #[.tmp 59, .tmp 61]) rfl ?_); at_builtin; refine Kd.R_append k30 (w0 := w) w.heap.size rfl (.tmp 59) (.tmp 61) 23 30 (.agg #[(.int .i64 0), (.string ⟨#[]⟩), (.int .i64 0), (.int .i64 0)]) 40 rfl Tryd.underlying23 info30 rfl (by decide) (by omega) (.slice A ts.length c) ts (⟨2, D, n, (a0.size : Int) - (S.size : Int)⟩ : S30) [.int .i64 2, .string D, .int .i64 n, .int .i64 ((a0.size : Int) - (S.size : Int))] (fun _ => True) (fun _ => False) rfl ?aX ?aP (fun _ hk => hk.elim) ?aF ?aO ?aB ?aS ?aL ?_; (case aX => (show Value.slice (some ⟨w4.heap.size + 1, 0, none⟩) 1 1 = _; rw [World.size_alloc])); (case aP => exact k30_mkM _ _ _ _); (case aB => exact (by repeat (first | (with_reducible first | exact HB4.out | apply below_alloc | apply pw_below_drewN | apply below_drew1) | exact HB4.out))); (case aF => exact (fun _ _ => trivial)); (case aO => exact (by (with_reducible repeat (first | apply Kd.R_alloc | apply Kd.R_drewN | apply Kd.R_drew)); exact HO4.out)); (case aS => exact (below_size (by repeat (first | (with_reducible first | exact HB4.out | apply below_alloc | apply pw_below_drewN | apply below_drew1) | exact HB4.out)))); (case aL => have := HTS.out; omega); intro v5 w5 ho hb hg hat; have HB5 := Aside0.mk hb; have HO5 := Aside0.mk ho; clear ho hb hg hat))
            obtain ⟨k', hk', hr'⟩ := rel_next HI.out hp HSL.out HNE.out hSle (tok_digit HCH.out HLET.out HDIG.out HOK.out D HD.out n HNV.out _ (by omega)) HK.out HTS.out hl HO5.out HB5.out
            go_roundg k'
            case measure => exact hk'
            case rel => exact hr'
          | false =>
            rw [hok] at hN
            have hN2 : ∀ W, Tabs W → Calls Tryd.prog 24 #[.string S] W (NumNo D W) := fun W h => (hN W h).mono fun e w' ⟨n, he, hn, hb⟩ => ⟨n, he, hb⟩
            have HN := Lib.hid hN2
            have HR := Aside0.mk (inv_err HI.out (by rw [← HSL.out]; exact HNE.out) (by rw [← HSL.out]; exact tok_digit_no HCH.out HLET.out HDIG.out hok))
            clear hN2 hok hN
            go_wp2_with (first
              | (go_at_call 20; refine (HL.out _).mono ?_; rintro e w3 ⟨rfl, ⟨nd3, rfl⟩⟩)
              | (go_at_call 23; refine (HDG.out _).mono ?_; rintro e w3 ⟨rfl, ⟨nd4, rfl⟩⟩)
              | (go_at_call 24; refine (HN.out _ (tabs_step HT.out (pw_below_drewN HB2.out _))).mono ?_; rintro e w4 ⟨n, rfl, hb4⟩; have HB4 := Aside0.mk (HB2.out.trans ((pw_below_drewN (Below.refl w2.heap.size w2) _ |>.trans (show Below w2.heap.size (w2.drewN _) w4 from hb4)).mono HB2.out.size)); clear hb4))
            rw [Exit.noGoto_ret]
            go_ret2
            exact ⟨_, by rw [HR.out]; rfl, by rw [HR.out]; exact Kd.R_nil _ _ _ _ _, below_alloc HB4.out _⟩
        | false =>
          rw [show (decide (48 ≤ (S[0]'hpos).toNat) && decide ((S[0]'hpos).toNat ≤ 57)) = false from hdig] at hDG
          have HDG := Lib.hid hDG
          have HDIG := Aside0.mk hdig
          clear hDG hdig
          have HOPS := Lib.hid ops_calls
          go_wp2_with (first
            | (go_at_call 20; refine (HL.out _).mono ?_; rintro e w3 ⟨rfl, ⟨nd3, rfl⟩⟩)
            | (go_at_call 23; refine (HDG.out _).mono ?_; rintro e w3 ⟨rfl, ⟨nd4, rfl⟩⟩)
            | (go_at_call 25; refine (HOPS.out _).mono ?_; rintro e w4 ⟨rfl, hb4⟩; have HB4a := Aside0.mk ((pw_below_drewN (Below.refl w2.heap.size w2) _).trans (show Below w2.heap.size (w2.drewN _) w4 from hb4)); clear hb4))
          go_loopg [4, 64] 16 (fun k v4 v64 wr => OpsRel S w2 (.slice A ts.length c) k v4 v64 wr)
          case atStart => exact ⟨0, rfl, rfl, rfl, fun j hj => by omega, HB4a.out⟩
          case round =>
            obtain ⟨i, rfl, rfl, hik, hno, hbx⟩ := hrel
            have HIK := Aside0.mk hik
            have HNO := Aside0.mk hno
            have HB4 := Aside0.mk (HB2.out.trans (hbx.mono HB2.out.size))
            have HO4 := Aside0.mk (Kd.R_below HO2.out hbx)
            have HBX := Aside0.mk hbx
            clear hik hno hbx
            by_cases hi : i < 15
            · have hix := index_ops i hi
              have hHP := fun W => P.strings_HasPrefix.calls S (opAt i) _ W (prefix_eq S i)
              cases hpre : (opsL.getD i []).isPrefixOf S.data.toList with
              | true =>
                rw [hpre] at hHP
                have HHP := Lib.hid hHP
                have HPRE := Aside0.mk hpre
                clear hHP hpre
                go_wp2_with (first
                  | (go_at_call 26; refine (HHP.out _).mono ?_; rintro e w6 ⟨rfl, ⟨nd6, rfl⟩⟩)
                  | ((with_reducible refine gate_builtin (b := .append) (xs := #[.tmp 70, .tmp 74]) rfl ?_); at_builtin; refine Kd.R_append k30 (w0 := w) w.heap.size rfl (.tmp 70) (.tmp 74) 23 30 (.agg #[(.int .i64 0), (.string ⟨#[]⟩), (.int .i64 0), (.int .i64 0)]) 40 rfl Tryd.underlying23 info30 rfl (by decide) (by omega) (.slice A ts.length c) ts (⟨3, opAt i, 0, (a0.size : Int) - (S.size : Int)⟩ : S30) [.int .i64 3, .string (opAt i), .int .i64 0, .int .i64 ((a0.size : Int) - (S.size : Int))] (fun _ => True) (fun _ => False) rfl rfl ?aP (fun _ hk => hk.elim) ?aF ?aO ?aB ?aS ?aL ?_; (case aP => exact k30_mkM _ _ _ _); (case aB => exact (by repeat (first | (with_reducible first | exact HB4.out | apply below_alloc | apply pw_below_drewN | apply below_drew1) | exact HB4.out))); (case aF => exact (fun _ _ => trivial)); (case aO => exact (by (with_reducible repeat (first | apply Kd.R_alloc | apply Kd.R_drewN | apply Kd.R_drew)); exact HO4.out)); (case aS => exact (below_size (by repeat (first | (with_reducible first | exact HB4.out | apply below_alloc | apply pw_below_drewN | apply below_drew1) | exact HB4.out)))); (case aL => have := HTS.out; omega); intro v5 w5 ho hb hg hat; have HB5 := Aside0.mk hb; have HO5 := Aside0.mk ho; clear ho hb hg hat))
                obtain ⟨k', hk', hr'⟩ := rel_next HI.out hp HSL.out HNE.out hSle (tok_op HCH.out HLET.out HDIG.out i hi HNO.out HPRE.out _ (by omega)) HK.out HTS.out hl HO5.out HB5.out
                go_roundg k'
                case measure => exact hk'
                case rel => exact hr'
              | false =>
                rw [hpre] at hHP
                have HHP := Lib.hid hHP
                have HPRE := Aside0.mk hpre
                clear hHP hpre
                go_wp2_with (first
                  | (go_at_call 26; refine (HHP.out _).mono ?_; rintro e w6 ⟨rfl, ⟨nd6, rfl⟩⟩))
                go_roundg (gk - 1)
                case measure => have := HIK.out; omega
                case rel => exact ⟨i + 1, by go_num, rfl, by have := HIK.out; omega, fun j hj => by
                  by_cases hji : j < i
                  · exact HNO.out j hji
                  · obtain rfl : j = i := by omega
                    exact HPRE.out, pw_below_drewN HBX.out _⟩
            · have HR := Aside0.mk (inv_err HI.out (by rw [← HSL.out]; exact HNE.out) (by rw [← HSL.out]; exact tok_op_no HCH.out HLET.out HDIG.out (fun j hj => HNO.out j (by have := HIK.out; omega))))
              go_wp2_with fail
              rw [Exit.noGoto_ret]
              go_ret2
              exact ⟨_, by rw [HR.out]; rfl, by rw [HR.out]; exact Kd.R_nil _ _ _ _ _, HB4.out⟩

set_option maxRecDepth 100000 in
theorem tokens_long (a0 : ByteArray) (w : World) (hl : 1500 < a0.size) : Calls Tryd.prog 10 #[.string a0] w (TokPost a0 w) := by
  have hR : toks a0 = ([], 2) := by unfold toks; rw [if_pos hl]
  have HR := Aside0.mk hR
  clear hR
  go_enter Tryd.func10, Tryd.ntmps10
  go_wp2_with fail
  go_step3
  go_wp2_with fail
  rw [Exit.noGoto_ret]
  go_ret2
  exact ⟨_, by rw [HR.out]; rfl, by rw [HR.out]; exact Kd.R_nil _ _ _ _ _, Below.refl _ _⟩

theorem lex_Tokens.calls (a0 : ByteArray) (r1 : List (S30)) (r2 : Int) (w : World) (hT_ : Tabs w) (h : lex_Tokens.f a0 = some (r1, r2)) :
    Calls Tryd.prog 10 #[.string a0] w fun e w' => ∃ v0_ : Value, e = .returned (.tuple #[v0_, .int .i64 r2]) ∧ Kd.R k30 30 w' w.heap.size (fun _ => True) v0_ r1 ∧ Below w.heap.size w w' := by
  have h1 : toks a0 = (r1, r2) := Option.some.inj h
  have hw : Calls Tryd.prog 10 #[.string a0] w (TokPost a0 w) := by
    by_cases hl : a0.size ≤ 1500
    · exact tokens_walk a0 w hT_ hl
    · exact tokens_long a0 w (by omega)
  refine hw.mono fun e w' hh => ?_
  unfold TokPost at hh
  rw [h1] at hh
  exact hh
end Go.Proofs.YtgbihkljbpionaaDoor.Q
