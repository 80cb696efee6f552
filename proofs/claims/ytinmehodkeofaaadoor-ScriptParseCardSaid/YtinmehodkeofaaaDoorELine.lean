/- What the script package computes, as plain functions: valid commands, the text of a script, its words, its numbers, its lines. Contracts of what script.Parse and script.Text call: Itoa, Atoi, the test of a separator; the methods number and word of a line. -/
import Derived.Test.YtinmehodkeofaaaDoorETabs
import Derived.Lib.ItoaNum
import Derived.Lib.AtoiTie
import Derived.Lib.AtoiAllCases
import Derived.Lib.Join
import Derived.Test.YtinmehodkeofaaaDoorQx2
import Derived.Test.YtinmehodkeofaaaDoorEShelf
import Derived.Sort.Grow
import Derived.Lib.Hide
namespace Go.Proofs.YtinmehodkeofaaaDoor.Q

def validC (c : S31) : Bool := decide (0 ≤ arity c.f0) && ((c.f1.length : Int) == arity c.f0) && c.f1.all (fun n => decide (0 ≤ n) && decide (n ≤ 65535)) && decide (-1 ≤ c.f2) && decide (c.f2 ≤ 65535) && decide (0 ≤ c.f4) && decide (c.f4 ≤ 65535) && decide (0 ≤ c.f3) && decide (c.f3 ≤ 256) && (decide (0 ≤ c.f2) || c.f3 == 0)
def cutW : List UInt8 := [99, 117, 116]
def noiseW : List UInt8 := [110, 111, 105, 115, 101]
/-- The words of a command's text. -/
def cmdWords (c : S31) : List (List UInt8) := nameAt c.f0.toNat :: (c.f1.map Lib.itoa ++ ((if c.f2 = -1 then [] else [cutW, Lib.itoa c.f2, Lib.itoa c.f3]) ++ (if c.f4 = 0 then [] else [noiseW, Lib.itoa c.f4])))
def lineOf (c : S31) : List UInt8 := Lib.join (cmdWords c) [32] ++ [10]
def textOf (l : List S31) : List UInt8 := l.flatMap lineOf
def script_Text.f (l : List S31) : Option ByteArray := if l.length ≤ 1000 ∧ l.all validC = true then some ⟨(textOf l).toArray⟩ else none

def isSep (c : UInt8) : Bool := c == 32 || c == 9
def wordsGo (w : List UInt8) : List UInt8 → List (List UInt8)
  | [] => if w = [] then [] else [w]
  | c :: l => if isSep c = true then (if w = [] then wordsGo [] l else w :: wordsGo [] l) else wordsGo (w ++ [c]) l
def wordsOf (l : List UInt8) : List (List UInt8) := wordsGo [] l
def linesGo (w : List UInt8) : List UInt8 → List (List UInt8)
  | [] => [w]
  | c :: l => if c = 10 then w :: linesGo [] l else linesGo (w ++ [c]) l
def linesOf (l : List UInt8) : List (List UInt8) := linesGo [] l

def isDigit (c : UInt8) : Bool := decide (48 ≤ c.toNat) && decide (c.toNat ≤ 57)
def val (l : List UInt8) : Nat := l.foldl (fun n c => 10 * n + (c.toNat - 48)) 0
/-- The value of a numeral without a leading zero, of at most five digits and at most 'most'. -/
def num (w : List UInt8) (most : Int) : Option Int :=
  if 1 ≤ w.length ∧ w.length ≤ 5 ∧ w.all isDigit = true ∧ (w.head? = some 48 → w.length = 1) ∧ (val w : Int) ≤ most then some (val w : Int) else none
def opGo (w : List UInt8) : Nat → Nat
  | 0 => 0
  | n + 1 => if nameAt (n + 1) = w then n + 1 else opGo w n
/-- The operation of a name, 0 where there is none. -/
def opOf (w : List UInt8) : Nat := opGo w 20
/-- The first n words as numbers. -/
def numsOf : Nat → List (List UInt8) → Option (List Int)
  | 0, _ => some []
  | _ + 1, [] => none
  | n + 1, w :: ws => (num w 65535).bind fun v => (numsOf n ws).map fun x => v :: x
def cutPart (ws : List (List UInt8)) : Option (Int × Int × List (List UInt8)) :=
  if ws.head? = some cutW then (num (ws.getD 1 []) 65535).bind fun a => (num (ws.getD 2 []) 256).map fun b => (a, b, ws.drop 3) else some (-1, 0, ws)
def noisePart (ws : List (List UInt8)) : Option (Int × List (List UInt8)) :=
  if ws.head? = some noiseW then (num (ws.getD 1 []) 65535).bind fun a => if 0 < a then some (a, ws.drop 2) else none else some (0, ws)
/-- The command of a line's words. -/
def cmdOf (ws : List (List UInt8)) : Option S31 :=
  if opOf (ws.getD 0 []) = 0 then none else
    (numsOf (arityAt (opOf (ws.getD 0 []))).toNat (ws.drop 1)).bind fun args =>
      (cutPart (ws.drop (1 + (arityAt (opOf (ws.getD 0 []))).toNat))).bind fun y =>
        (noisePart y.2.2).bind fun z => if z.2 = [] then some ⟨(opOf (ws.getD 0 []) : Int), args, y.1, y.2.1, z.1⟩ else none
def cmdsOf : List (List (List UInt8)) → Option (List S31)
  | [] => some []
  | ws :: r => if ws = [] then cmdsOf r else (cmdOf ws).bind fun c => (cmdsOf r).map fun l => c :: l
def parse (t : List UInt8) : List S31 × Int :=
  match cmdsOf ((linesOf t).map wordsOf) with
  | none => ([], 3)
  | some l => if 400 < l.length then ([], 2) else (l, 0)
def script_Parse.f (a0 : ByteArray) : Option (List S31 × Int) := if a0.size ≤ 1000000 then some (parse a0.data.toList) else none

theorem num_nil (m : Int) : num [] m = none := by simp [num]

/-! ### Numerals -/
def Digits (l : List UInt8) : Prop := ∀ c ∈ l, 48 ≤ c.toNat ∧ c.toNat ≤ 57
theorem digits_iff (l : List UInt8) : l.all isDigit = true ↔ Digits l := by simp [isDigit, Digits]
theorem decFrom_digits : ∀ (l : List UInt8) (acc : Nat), Digits l → Lib.decFrom acc l = some (l.foldl (fun n c => 10 * n + (c.toNat - 48)) acc)
  | [], acc, _ => rfl
  | c :: l, acc, h => by
    have hc := h c List.mem_cons_self
    simp only [Lib.decFrom, Lib.digitVal, if_pos hc, List.foldl_cons]
    rw [decFrom_digits l _ (fun x hx => h x (List.mem_cons_of_mem _ hx)), Nat.mul_comm]
theorem atoi_digits (l : List UInt8) (h : Digits l) (hn : l ≠ []) : Lib.atoi l = some (val l : Int) := by
  cases l with
  | nil => exact absurd rfl hn
  | cons c r =>
    have hc := h c List.mem_cons_self
    have h45 : (c == 45) = false := by
      rw [beq_eq_false_iff_ne]
      rintro rfl
      simp at hc
    have h43 : (c == 43) = false := by
      rw [beq_eq_false_iff_ne]
      rintro rfl
      simp at hc
    simp only [Lib.atoi, h45, h43, Bool.false_eq_true, if_false, Lib.decNat, List.isEmpty_cons]
    rw [decFrom_digits _ _ h]
    rfl
theorem atoiAll_digits (l : List UInt8) (h : Digits l) (hn : l ≠ []) (hl : l.length ≤ 18) : Lib.atoiAll l = .ok (val l : Int) := by
  rw [Lib.atoiAll_short l hl, atoi_digits l h hn]
  rfl
theorem snocRec {α : Type} {P : List α → Prop} (h0 : P []) (h1 : ∀ l a, P l → P (l ++ [a])) (l : List α) : P l := by
  have key : ∀ r : List α, P r.reverse := by
    intro r
    induction r with
    | nil => exact h0
    | cons a r ih => rw [List.reverse_cons]; exact h1 _ _ ih
  have := key l.reverse
  rwa [List.reverse_reverse] at this
theorem val_snoc (l : List UInt8) (c : UInt8) : val (l ++ [c]) = 10 * val l + (c.toNat - 48) := by
  unfold val
  rw [List.foldl_append]
  rfl
theorem digit_of (c : UInt8) (h : 48 ≤ c.toNat ∧ c.toNat ≤ 57) : UInt8.ofNat (48 + (c.toNat - 48)) = c := by
  rw [show 48 + (c.toNat - 48) = c.toNat from by omega]
  simp
theorem val_pos : ∀ (l : List UInt8) (c : UInt8), Digits (c :: l) → c.toNat ≠ 48 → 1 ≤ val (c :: l) := by
  refine snocRec ?_ ?_
  · intro c h hc
    have := h c List.mem_cons_self
    simp [val]
    omega
  · intro l d ih c h hc
    have := ih c (fun x hx => h x (by simp at hx ⊢; rcases hx with hx | hx <;> simp [hx])) hc
    rw [← List.cons_append, val_snoc]
    omega
/-- Without a leading zero the digits are the numeral. -/
theorem dec_val : ∀ (l : List UInt8), Digits l → l ≠ [] → (l.head? ≠ some 48 ∨ l.length = 1) → Lib.decDigits (val l) = l := by
  refine snocRec ?_ ?_
  · intro _ h _; exact absurd rfl h
  · intro l d ih h _ hz
    have hd := h d (by simp)
    cases l with
    | nil =>
      rw [Lib.decDigits_one (by simp [val]; omega)]
      simp only [val, List.nil_append, List.foldl_cons, List.foldl_nil, Nat.mul_zero, Nat.zero_add]
      rw [digit_of d hd]
    | cons c t =>
      have hc : c.toNat ≠ 48 := by
        rcases hz with hz | hz
        · intro e
          apply hz
          rw [List.cons_append, List.head?_cons]
          congr 1
          exact UInt8.toNat_inj.1 e
        · simp at hz
      have hD : Digits (c :: t) := fun x hx => h x (by simp at hx ⊢; rcases hx with hx | hx <;> simp [hx])
      have hp := val_pos t c hD hc
      have ih' := ih hD (by simp) (.inl (by
        rw [List.head?_cons]
        intro e
        injection e with e
        exact hc (by rw [e]; rfl)))
      rw [val_snoc, Lib.decDigits, dif_neg (by omega)]
      rw [show (10 * val (c :: t) + (d.toNat - 48)) / 10 = val (c :: t) from by omega, show (10 * val (c :: t) + (d.toNat - 48)) % 10 = d.toNat - 48 from by omega, ih', digit_of d hd]
/-- A numeral of two digits or more has no leading zero. -/
theorem dec_head (n : Nat) : ∀ u, u ≤ n → (Lib.decDigits u).head? = some 48 → (Lib.decDigits u).length = 1 := by
  induction n with
  | zero =>
    intro u hu h
    obtain rfl : u = 0 := by omega
    rw [Lib.decDigits_one (by omega)]
    rfl
  | succ n ih =>
    intro u hu h
    by_cases h10 : u < 10
    · rw [Lib.decDigits_one h10]
      rfl
    · rw [Lib.decDigits, dif_neg h10] at h
      have hne : Lib.decDigits (u / 10) ≠ [] := by
        intro e
        have := congrArg List.length e
        rw [Lib.decDigits_length] at this
        unfold Lib.nDigits at this
        split at this <;> simp at this
      have hh : (Lib.decDigits (u / 10)).head? = some 48 := by
        cases hd : Lib.decDigits (u / 10) with
        | nil => exact absurd hd hne
        | cons a b => rw [hd] at h; simpa using h
      have hl := ih (u / 10) (by omega) hh
      exfalso
      -- the leading part has one digit, and it is a zero
      by_cases hq : u / 10 < 10
      · rw [Lib.decDigits_one hq] at hh
        simp only [List.head?_cons, Option.some.injEq] at hh
        have h2 := congrArg UInt8.toNat hh
        simp at h2
        omega
      · rw [Lib.decDigits_length, Lib.nDigits, dif_neg hq] at hl
        unfold Lib.nDigits at hl
        split at hl <;> omega
theorem dec_facts (u : Nat) : Digits (Lib.decDigits u) ∧ val (Lib.decDigits u) = u ∧ Lib.decDigits u ≠ [] := by
  induction u using Nat.strongRecOn with
  | _ u ih =>
    by_cases h : u < 10
    · rw [Lib.decDigits_one h]
      have hc : (UInt8.ofNat (48 + u)).toNat = 48 + u := by simp; omega
      refine ⟨fun c hc' => ?_, ?_, by simp⟩
      · rw [List.mem_singleton] at hc'
        subst hc'
        omega
      · simp only [val, List.foldl_cons, List.foldl_nil, Nat.mul_zero, Nat.zero_add, hc]
        omega
    · obtain ⟨h1, h2, h3⟩ := ih (u / 10) (by omega)
      have hc : (UInt8.ofNat (48 + u % 10)).toNat = 48 + u % 10 := by simp; omega
      rw [Lib.decDigits, dif_neg h]
      refine ⟨fun c hc' => ?_, ?_, by simp⟩
      · rcases List.mem_append.1 hc' with hc' | hc'
        · exact h1 c hc'
        · rw [List.mem_singleton] at hc'
          subst hc'
          omega
      · rw [val_snoc, h2, hc]
        omega
theorem nDigits_le : ∀ (k u : Nat), u < 10 ^ (k + 1) → Lib.nDigits u ≤ k + 1
  | 0, u, h => by rw [Lib.nDigits_small (by simpa using h)]; omega
  | k + 1, u, h => by
    by_cases h10 : u < 10
    · rw [Lib.nDigits_small h10]; omega
    · rw [Lib.nDigits_big h10]
      have := nDigits_le k (u / 10) (by rw [Nat.pow_succ] at h; omega)
      omega
theorem itoa_nat (u : Nat) : Lib.itoa (u : Int) = Lib.decDigits u := by unfold Lib.itoa; rw [if_neg (by omega)]; rfl
/-- What Itoa writes is a numeral. -/
theorem num_itoa (v most : Int) (h0 : 0 ≤ v) (h1 : v ≤ most) (h2 : v ≤ 99999) : num (Lib.itoa v) most = some v := by
  obtain ⟨u, rfl⟩ := Int.eq_ofNat_of_zero_le h0
  rw [itoa_nat]
  obtain ⟨g1, g2, g3⟩ := dec_facts u
  have hl := nDigits_le 4 u (by omega)
  rw [← Lib.decDigits_length] at hl
  unfold num
  rw [if_pos ⟨List.length_pos_iff.2 g3, hl, (digits_iff _).2 g1, dec_head u u (Nat.le_refl _), by rw [g2]; exact h1⟩, g2]
theorem num_some {w : List UInt8} {most v : Int} (h : num w most = some v) : 0 ≤ v ∧ v ≤ most ∧ Lib.itoa v = w ∧ Lib.atoiAll w = .ok v ∧ w ≠ [] ∧ w.length ≤ 5 := by
  unfold num at h
  split at h
  · rename_i hh
    obtain ⟨h1, h2, h3, h4, h5⟩ := hh
    obtain rfl := Option.some.inj h
    have hd := (digits_iff _).1 h3
    have hn : w ≠ [] := by intro e; rw [e] at h1; simp at h1
    refine ⟨by omega, h5, ?_, atoiAll_digits w hd hn (by omega), hn, h2⟩
    rw [itoa_nat]
    refine dec_val w hd hn ?_
    by_cases hz : w.head? = some 48
    · exact .inr (h4 hz)
    · exact .inl hz
  · cases h
theorem num_of_itoa {w : List UInt8} {most v : Int} (h0 : 0 ≤ v) (h1 : v ≤ most) (h2 : v ≤ 99999) (hi : Lib.itoa v = w) : num w most = some v := hi ▸ num_itoa v most h0 h1 h2
/-- The value, as the program reckons it: what Atoi reads, if Itoa writes it back and it is in the range. -/
theorem num_ok {w : List UInt8} {most v : Int} (hm : most ≤ 99999) (ha : Lib.atoiAll w = .ok v) : num w most = if Lib.itoa v = w ∧ 0 ≤ v ∧ v ≤ most then some v else none := by
  split
  · rename_i h
    exact num_of_itoa h.2.1 h.2.2 (by omega) h.1
  · rename_i h
    cases hh : num w most with
    | none => rfl
    | some u =>
      obtain ⟨h0, h1, h2, h3, _⟩ := num_some hh
      rw [ha] at h3
      injection h3 with h3
      subst h3
      exact absurd ⟨h2, h0, h1⟩ h
theorem num_bad {w : List UInt8} {most : Int} (ha : ∀ v, Lib.atoiAll w ≠ .ok v) : num w most = none := by
  cases hh : num w most with
  | none => rfl
  | some u => exact absurd (num_some hh).2.2.2.1 (ha u)
end Go.Proofs.YtinmehodkeofaaaDoor.Q
namespace Go.Proofs.YtinmehodkeofaaaDoor.Q
open Go.RowKit Go.Proofs.YtinmehodkeofaaaDoorW.PrintWords Go.Proofs.YtinmehodkeofaaaDoorW.PrintLast Go.Proofs.YtinmehodkeofaaaDoorW.PrintMore
set_option linter.unusedVariables false
set_option linter.unusedSimpArgs false

theorem grow_below (w : World) (k : Nat) (os : Array Obj) : Below w.heap.size w (Go.Sort.grow (w.drewN k) os) :=
  ⟨rfl, rfl, rfl, by show w.heap.size ≤ (w.heap ++ os).size; rw [Array.size_append]; omega, fun j hj => by
    show (w.heap ++ os)[j]? = w.heap[j]?
    rw [Array.getElem?_append_left hj]⟩
theorem itoa_calls (n : Int) (h0 : -9223372036854775808 ≤ n) (h1 : n ≤ 9223372036854775807) (w : World) (hT : Tabs w) :
    Calls Tryd.prog 32 #[.int .i64 n] w fun e w' => e = .returned (.string ⟨(Lib.itoa n).toArray⟩) ∧ Below w.heap.size w w' :=
  (Tryd.strconv_Itoa n h0 h1 w hT.1).mono fun e w' ⟨he, k, os, hw⟩ => ⟨he, hw ▸ grow_below w k os⟩
theorem atoi_ok (s : ByteArray) (hs : s.size ≤ 281474976710656) (v : Int) (h : Lib.atoiAll s.data.toList = .ok v) (w : World) :
    Calls Tryd.prog 50 #[.string s] w fun e w' => e = .returned (.tuple #[.int .i64 v, .nilIface]) ∧ Below w.heap.size w w' :=
  (Any.strconv_Atoi_ok Tryd.laysC172 s (by omega) v h w).mono fun e w' ⟨he, hw⟩ => ⟨he, by
    rcases hw with rfl | ⟨t, rfl⟩
    · exact Below.refl _ _
    · exact Lib.bytesWorld_below _ _ _⟩
def AtoiErr (w : World) (e : Ending) (w' : World) : Prop := ∃ (n : Int) (N : Nat), e = .returned (.tuple #[.int .i64 n, .iface 105 (.pointer (some ⟨N, 0, none⟩))]) ∧ -9223372036854775808 ≤ n ∧ n ≤ 9223372036854775807 ∧ Below w.heap.size w w'
theorem atoi_err (s : ByteArray) (hs : s.size ≤ 281474976710656) (h : ∀ v, Lib.atoiAll s.data.toList ≠ .ok v) (w : World) (hT : Tabs w) :
    Calls Tryd.prog 50 #[.string s] w (AtoiErr w) := by
  rcases hh : Lib.atoiAll s.data.toList with v | _ | _
  · exact absurd hh (h v)
  · obtain ⟨_, ⟨tp, p, hv⟩, _⟩ := hT
    exact (Any.strconv_Atoi_syntax_var Tryd.laysC172 s hs hh tp p w hv).mono fun e w' ⟨N, he, _, _, hb⟩ => ⟨0, N, he, by omega, by omega, hb⟩
  · obtain ⟨_, _, ⟨tp, p, hv⟩, _⟩ := hT
    exact (Any.strconv_Atoi_range_var Tryd.laysC172 s hs hh tp p w hv).mono fun e w' ⟨N, he, _, _, hb⟩ => ⟨Lib.atoiSat s.data.toList, N, he, (Lib.atoiSat_bounds _).1, (Lib.atoiSat_bounds _).2, hb⟩
theorem within_eq (a b c : Int) : script_within.f a b c = some (decide (b ≤ a) && decide (a ≤ c)) := by
  unfold script_within.f
  split
  · rename_i h
    rw [decide_eq_true h, Bool.true_and]
  · rename_i h
    rw [decide_eq_false h, Bool.false_and]
theorem within_calls (a b c : Int) (w : World) : Calls Tryd.prog 30 #[.int .i64 a, .int .i64 b, .int .i64 c] w fun e w' => e = .returned (.bool (decide (b ≤ a) && decide (a ≤ c))) ∧ Drawn0 w w' := by
  have h := script_within.calls a b c _ w (within_eq a b c)
  exact h
end Go.Proofs.YtinmehodkeofaaaDoor.Q
