/- Contracts of the methods number and word of a line. The contract of names: the map from the names of operations to the operations. What the method command of a line keeps in memory, and the plain laws of its loop. The contract of the method command of a line. Plain laws: strings.Split at a newline gives the lines; strings.FieldsFunc at blanks and tabs gives the words. The contract of script.Parse, at every text of at most a million bytes. -/
import Derived.Test.YtinmehodkeofaaaDoorELine
import Derived.Maps.OwnOps
import Derived.Maps.Views
import Derived.Deep.MidRow
import Derived.Test.YtinmehodkeofaaaDoorEArity
import Derived.Test.YtinmehodkeofaaaDoorEShelf
import Derived.Lib.SpaceUEq
import Derived.Lib.FieldsP
import Derived.Lib.SplitLaws
import Derived.Laws.RangeAny
namespace Go.Proofs.YtinmehodkeofaaaDoor.Q
open Go.RowKit Go.Proofs.YtinmehodkeofaaaDoorW.PrintWords Go.Proofs.YtinmehodkeofaaaDoorW.PrintLast Go.Proofs.YtinmehodkeofaaaDoorW.PrintMore
set_option linter.unusedVariables false
set_option linter.unusedSimpArgs false

/-- A line in memory: its one field, the words that are left. -/
def Line (W : World) (b : Nat) (ok : Nat → Prop) (ws : List ByteArray) : Prop := ∃ A c, W.heap[b]? = some (.cells #[.slice A ws.length c] 51 (0, 0)) ∧ ws.length ≤ c ∧ Kd.F Kd.string W ok A ws.length ws
def hd (ws : List ByteArray) : List UInt8 := (ws.getD 0 ByteArray.empty).data.toList

theorem line_grown {W W1 : World} {b : Nat} {ok : Nat → Prop} {ws : List ByteArray} (h : Line W b ok ws) (hb : Below W.heap.size W W1) : Line W1 b ok ws := by
  obtain ⟨A, c, h1, h2, h3⟩ := h
  exact ⟨A, c, blk_below h1 hb, h2, Kd.F_below h3 hb⟩

/-- What a call on a line leaves: the line at b, nothing else of what there was. -/
def NumPost (w : World) (b : Nat) (ok : Nat → Prop) (ws : List ByteArray) (r : Option Int) (e : Ending) (w' : World) : Prop :=
  ∃ n : Int, e = .returned (.tuple #[.int .i64 n, .bool r.isSome]) ∧ (∀ v, r = some v → n = v) ∧ Line w' b ok ws ∧ w.grownBy w' (some b)

theorem number_nil (b : Nat) (most : Int) (ok : Nat → Prop) (w : World) (hL : Line w b ok []) :
    Calls Tryd.prog 41 #[.pointer (some ⟨b, 0, none⟩), .int .i64 most] w (NumPost w b ok [] none) := by
  have HL := Aside0.mk hL
  obtain ⟨A, c, hbk, hroom, hF⟩ := hL
  have q0 : w.cell? ⟨b, 0, none⟩ = some (.slice A 0 c) := (blk_cell hbk 0).trans rfl
  clear hbk hroom hF
  go_enter Tryd.func41, Tryd.ntmps41
  go_wp2
  go_ret2
  exact ⟨0, rfl, fun v h => (by cases h), HL.out, World.grownBy.refl _ _⟩

theorem grown_set {w w1 : World} {b : Nat} (h : Below w.heap.size w w1) (i : Nat) (u : Value) : w.grownBy (w1.setCell ⟨b, i, none⟩ u) (some b) :=
  ⟨h.os, h.tape, h.output, by rw [World.size_setCell]; exact h.size, fun k hk hne => (Below.heap_setCell w1 ⟨b, i, none⟩ u k (by intro e; exact hne (by rw [e]))).trans (h.block k hk)⟩
theorem grown_below {w w1 w2 : World} {row : Option Nat} (h : w.grownBy w1 row) (hb : Below w1.heap.size w1 w2) : w.grownBy w2 row := World.grownBy.trans h (grown_of_below hb row)
theorem line_cut {W : World} {b : Nat} {ok : Nat → Prop} {x : ByteArray} {t : List ByteArray} {A : Option Addr} {c : Nat} (hroom : t.length + 1 ≤ c) (hF : Kd.F Kd.string W ok A (x :: t).length (x :: t)) (hok : ∀ k, ok k → k ≠ b)
    {w1 : World} (hb1 : Below W.heap.size W w1) {cs : Array Value} (hbk : w1.heap[b]? = some (.cells cs 51 (0, 0))) (hcs : cs.size = 1) {A1 : Option Addr} {c1 : Nat} (hA1 : A1 = (if c = (1 : Int).toNat then A else A.map (·.add ((1 : Int).toNat * 1)))) (hc1 : c1 = c - (1 : Int).toNat) :
    Line (w1.setCell ⟨b, 0, none⟩ (.slice A1 t.length c1)) b ok t := by
  have h1 := Kd.F_cut (m := 1) (c := c) hF (by simp) (by simpa using hroom)
  rw [List.drop_one, List.tail_cons] at h1
  refine ⟨A1, c1, blk_put hbk 0 _ ?_, by rw [hc1]; simp; omega, ?_⟩
  · obtain ⟨l⟩ := cs
    cases l with
    | nil => simp at hcs
    | cons a l =>
      cases l with
      | nil => rfl
      | cons _ _ => simp at hcs
  · refine Kd.F_far ?_ (p := ⟨b, 0, none⟩) (fun k hk => hok k hk) _
    refine Kd.F_below ?_ hb1
    rw [hA1]
    exact h1

set_option maxHeartbeats 400000 in
set_option maxRecDepth 100000 in
theorem number_err (b : Nat) (most : Int) (x : ByteArray) (t : List ByteArray) (ok : Nat → Prop) (w : World) (hT : Tabs w) (hL : Line w b ok (x :: t)) (hok : ∀ k, ok k → k ≠ b) (hs : x.size ≤ 281474976710656) (ha : ∀ v, Lib.atoiAll x.data.toList ≠ .ok v) :
    Calls Tryd.prog 41 #[.pointer (some ⟨b, 0, none⟩), .int .i64 most] w (NumPost w b ok t none) := by
  obtain ⟨A, c, hbk, hroom, hF⟩ := hL
  have HF := Aside0.mk hF
  have HOK := Aside0.mk hok
  obtain ⟨ad, rfl, hx0⟩ := Kd.at_string (Kd.F_now hF) 0 (by decide) (by simp)
  have hx : w.cell? ad = some (.string x) := by simpa [Addr.add, rdOf] using hx0
  obtain ⟨i0, hi0, _, hsz0, _⟩ := info_parts info9
  have hroom' : t.length + 1 ≤ c := hroom
  have hcut := cut_from (P := Tryd.prog) 45 9 .i64 Tryd.underlying45 hi0 1 hsz0 (some ad) (x :: t).length c 1 (by decide) (by simp; omega)
  obtain ⟨A1, hA1⟩ : ∃ A1, A1 = (if c = (1 : Int).toNat then some ad else (some ad : Option Addr).map (·.add ((1 : Int).toNat * 1))) := ⟨_, rfl⟩
  obtain ⟨c1, hc1⟩ : ∃ c1, c1 = c - (1 : Int).toNat := ⟨_, rfl⟩
  obtain ⟨n, hn⟩ : ∃ n, n = (x :: t).length := ⟨_, rfl⟩
  have hn1 : n - (1 : Int).toNat = t.length := by rw [hn]; simp
  rw [← hA1, ← hc1, ← hn, hn1] at hcut
  rw [← hn] at hbk
  have hn0 : ((n : Int) = 0) = False := eq_false (by have : 0 < n := by rw [hn]; exact Nat.succ_pos _
                                                     omega)
  have hnp : (0 : Int) < (n : Int) := by have : 0 < n := by rw [hn]; exact Nat.succ_pos _
                                         omega
  have hnp' := eq_true hnp
  have hn2 : 0 < n := by omega
  have q0 : w.cell? ⟨b, 0, none⟩ = some (.slice (some ad) n c) := (blk_cell hbk 0).trans rfl
  have BK := Aside0.mk hbk
  have HA := Lib.hid (fun w (hT : Tabs w) => atoi_err x hs ha w hT)
  have HT := Aside0.mk hT
  have HA1 := Aside0.mk hA1
  have HC1 := Aside0.mk hc1
  have HRM := Aside0.mk hroom'
  clear hbk hroom hF hx0 hi0 hsz0 ha hT hA1 hc1 hroom' hok hn hn1 hnp
  go_enter Tryd.func41, Tryd.ntmps41
  go_wp2_with (first | (go_at_call 50; refine (HA.out _ HT.out).mono ?_; rintro e w1 ⟨nv, N, rfl, _, _, hb1⟩; have q1 := pw_cell_below hb1 q0; have z1 := blk_frozen (blk_below BK.out hb1) 0; have HB1 := Aside0.mk hb1; clear hb1))
  go_ret2
  exact ⟨nv, rfl, fun v h => (by cases h), line_cut HRM.out HF.out HOK.out HB1.out (blk_below BK.out HB1.out) rfl HA1.out HC1.out, grown_set HB1.out 0 _⟩
set_option maxHeartbeats 400000 in
set_option maxRecDepth 100000 in
theorem number_val (b : Nat) (most : Int) (x : ByteArray) (t : List ByteArray) (ok : Nat → Prop) (w : World) (w0 : World) (hT : Tabs w0) (hB0 : Below w0.heap.size w0 w) (hb0 : w0.heap.size ≤ b) (hL : Line w b ok (x :: t)) (hok : ∀ k, ok k → k ≠ b) (hs : x.size ≤ 281474976710656) (v : Int) (ha : Lib.atoiAll x.data.toList = .ok v) :
    Calls Tryd.prog 41 #[.pointer (some ⟨b, 0, none⟩), .int .i64 most] w (fun e w' => e = .returned (.tuple #[.int .i64 v, .bool (decide (Lib.itoa v = x.data.toList) && (decide (0 ≤ v) && decide (v ≤ most)))]) ∧ Line w' b ok t ∧ w.grownBy w' (some b)) := by
  obtain ⟨A, c, hbk, hroom, hF⟩ := hL
  have HF := Aside0.mk hF
  have HOK := Aside0.mk hok
  obtain ⟨ad, rfl, hx0⟩ := Kd.at_string (Kd.F_now hF) 0 (by decide) (by simp)
  have hx : w.cell? ad = some (.string x) := by simpa [Addr.add, rdOf] using hx0
  obtain ⟨i0, hi0, _, hsz0, _⟩ := info_parts info9
  have hroom' : t.length + 1 ≤ c := hroom
  have hcut := cut_from (P := Tryd.prog) 45 9 .i64 Tryd.underlying45 hi0 1 hsz0 (some ad) (x :: t).length c 1 (by decide) (by simp; omega)
  obtain ⟨A1, hA1⟩ : ∃ A1, A1 = (if c = (1 : Int).toNat then some ad else (some ad : Option Addr).map (·.add ((1 : Int).toNat * 1))) := ⟨_, rfl⟩
  obtain ⟨c1, hc1⟩ : ∃ c1, c1 = c - (1 : Int).toNat := ⟨_, rfl⟩
  obtain ⟨n, hn⟩ : ∃ n, n = (x :: t).length := ⟨_, rfl⟩
  have hn1 : n - (1 : Int).toNat = t.length := by rw [hn]; simp
  rw [← hA1, ← hc1, ← hn, hn1] at hcut
  rw [← hn] at hbk
  have hn0 : ((n : Int) = 0) = False := eq_false (by have : 0 < n := by rw [hn]; exact Nat.succ_pos _
                                                     omega)
  have hnp : (0 : Int) < (n : Int) := by have : 0 < n := by rw [hn]; exact Nat.succ_pos _
                                         omega
  have hnp' := eq_true hnp
  have hn2 : 0 < n := by omega
  have q0 : w.cell? ⟨b, 0, none⟩ = some (.slice (some ad) n c) := (blk_cell hbk 0).trans rfl
  have BK := Aside0.mk hbk
  have HA := Lib.hid (fun w => atoi_ok x hs v ha w)
  have hv := Lib.atoiAll_bounds ha
  have HI := Lib.hid (fun w (hT : Tabs w) => itoa_calls v hv.1 hv.2 w hT)
  have HW := Lib.hid (fun w => within_calls v 0 most w)
  obtain ⟨S, hS⟩ : ∃ S : ByteArray, S = ⟨(Lib.itoa v).toArray⟩ := ⟨_, rfl⟩
  rw [← hS] at HI
  have hSL : Lib.itoa v = S.toList := by rw [hS]; simp
  have hXL : x.data.toList = x.toList := by rw [ByteArray.toList_eq]
  rw [hSL, hXL]
  obtain ⟨b2, hb2⟩ : ∃ b2, b2 = (decide (0 ≤ v) && decide (v ≤ most)) := ⟨_, rfl⟩
  rw [← hb2] at HW ⊢
  clear hb2 hS hSL hXL hv
  have HT := Aside0.mk hT
  have HTS := Aside0.mk (fun (w1 : World) (hb1 : Below w.heap.size w w1) (u : Value) => (show Below w0.heap.size w0 (w1.setCell ⟨b, 0, none⟩ u) from (hB0.trans (hb1.mono hB0.size)).setCell hb0 u))
  clear hB0 hb0
  have HA1 := Aside0.mk hA1
  have HC1 := Aside0.mk hc1
  have HRM := Aside0.mk hroom'
  clear hbk hroom hF hx0 hi0 hsz0 ha hT hA1 hc1 hroom' hok hn hn1 hnp
  go_enter Tryd.func41, Tryd.ntmps41
  by_cases hE : S.toList = x.toList
  · have hEt := eq_true hE
    have hEb : (S.toList == x.toList) = true := beq_iff_eq.2 hE
    rw [decide_eq_true hE, Bool.true_and]
    clear hE
    go_wp2_with (first
      | (go_at_call 50; refine (HA.out _).mono ?_; rintro e w1 ⟨rfl, hb1⟩; have q1 := pw_cell_below hb1 q0; have z1 := blk_frozen (blk_below BK.out hb1) 0; have HB1 := Aside0.mk hb1; clear hb1)
      | (go_at_call 32; refine (HI.out _ (tabs_step HT.out (HTS.out _ HB1.out _))).mono ?_; rintro e w2 ⟨rfl, hb2⟩; have HB2 := Aside0.mk hb2; clear hb2)
      | (go_at_call 30; refine (HW.out _).mono ?_; rintro e w3 ⟨rfl, ⟨nd, rfl⟩⟩))
    go_ret2
    have hb3 := pw_below_drewN HB2.out nd
    exact ⟨rfl, line_grown (line_cut HRM.out HF.out HOK.out HB1.out (blk_below BK.out HB1.out) rfl HA1.out HC1.out) hb3, grown_below (grown_set HB1.out 0 _) hb3⟩
  · have hEt := eq_false hE
    have hEb : (S.toList == x.toList) = false := beq_eq_false_iff_ne.2 hE
    rw [decide_eq_false hE, Bool.false_and]
    clear hE
    go_wp2_with (first
      | (go_at_call 50; refine (HA.out _).mono ?_; rintro e w1 ⟨rfl, hb1⟩; have q1 := pw_cell_below hb1 q0; have z1 := blk_frozen (blk_below BK.out hb1) 0; have HB1 := Aside0.mk hb1; clear hb1)
      | (go_at_call 32; refine (HI.out _ (tabs_step HT.out (HTS.out _ HB1.out _))).mono ?_; rintro e w2 ⟨rfl, hb2⟩; have HB2 := Aside0.mk hb2; clear hb2)
      | (go_at_call 30; refine (HW.out _).mono ?_; rintro e w3 ⟨rfl, ⟨nd, rfl⟩⟩))
    go_ret2
    exact ⟨rfl, line_grown (line_cut HRM.out HF.out HOK.out HB1.out (blk_below BK.out HB1.out) rfl HA1.out HC1.out) HB2.out, grown_below (grown_set HB1.out 0 _) HB2.out⟩

/-- The method number: the value of the first word, if it is one; the word is gone. -/
theorem number_calls (b : Nat) (most : Int) (hm : most ≤ 99999) (ws : List ByteArray) (ok : Nat → Prop) (w w0 : World) (hT : Tabs w0) (hB0 : Below w0.heap.size w0 w) (hb0 : w0.heap.size ≤ b) (hL : Line w b ok ws) (hok : ∀ k, ok k → k ≠ b) (hs : ∀ x ∈ ws, x.size ≤ 281474976710656) :
    Calls Tryd.prog 41 #[.pointer (some ⟨b, 0, none⟩), .int .i64 most] w (NumPost w b ok ws.tail (num (hd ws) most)) := by
  cases ws with
  | nil => exact number_nil b most ok w hL
  | cons x t =>
    have hx := hs x List.mem_cons_self
    show Calls Tryd.prog 41 _ w (NumPost w b ok t (num x.data.toList most))
    rcases ha : Lib.atoiAll x.data.toList with v | _ | _
    · refine (number_val b most x t ok w w0 hT hB0 hb0 hL hok hx v ha).mono fun e w' ⟨he, h1, h2⟩ => ?_
      rw [num_ok hm ha]
      by_cases h : Lib.itoa v = x.data.toList ∧ 0 ≤ v ∧ v ≤ most
      · rw [if_pos h]
        exact ⟨v, by rw [he]; simp [h.1, h.2.1, h.2.2], fun u hu => Option.some.inj hu, h1, h2⟩
      · rw [if_neg h]
        refine ⟨v, ?_, fun u hu => (by cases hu), h1, h2⟩
        rw [he]
        have hb : (decide (Lib.itoa v = x.data.toList) && (decide (0 ≤ v) && decide (v ≤ most))) = false := by
          simp only [Bool.and_eq_false_iff, decide_eq_false_iff_not]
          by_cases h1 : Lib.itoa v = x.data.toList
          · by_cases h2 : 0 ≤ v
            · exact .inr (.inr fun h3 => h ⟨h1, h2, h3⟩)
            · exact .inr (.inl h2)
          · exact .inl h1
        rw [hb]
        rfl
    · rw [num_bad (by intro v hv; rw [ha] at hv; cases hv)]
      exact number_err b most x t ok w (tabs_step hT hB0) hL hok hx (by intro v hv; rw [ha] at hv; cases hv)
    · rw [num_bad (by intro v hv; rw [ha] at hv; cases hv)]
      exact number_err b most x t ok w (tabs_step hT hB0) hL hok hx (by intro v hv; rw [ha] at hv; cases hv)

/-! ### word -/
theorem word_nil (b : Nat) (s : ByteArray) (ok : Nat → Prop) (w : World) (hL : Line w b ok []) :
    Calls Tryd.prog 42 #[.pointer (some ⟨b, 0, none⟩), .string s] w fun e w' => e = .returned (.bool false) ∧ Line w' b ok [] ∧ w.grownBy w' (some b) := by
  have HL := Aside0.mk hL
  obtain ⟨A, c, hbk, hroom, hF⟩ := hL
  have q0 : w.cell? ⟨b, 0, none⟩ = some (.slice A 0 c) := (blk_cell hbk 0).trans rfl
  clear hbk hroom hF
  go_enter Tryd.func42, Tryd.ntmps42
  go_wp2
  go_ret
  exact ⟨rfl, HL.out, World.grownBy.refl _ _⟩
set_option maxHeartbeats 400000 in
set_option maxRecDepth 100000 in
theorem word_cons (b : Nat) (s : ByteArray) (x : ByteArray) (t : List ByteArray) (ok : Nat → Prop) (w : World) (hL : Line w b ok (x :: t)) (hok : ∀ k, ok k → k ≠ b) :
    Calls Tryd.prog 42 #[.pointer (some ⟨b, 0, none⟩), .string s] w fun e w' => e = .returned (.bool (decide (x.data.toList = s.data.toList))) ∧ Line w' b ok (if x.data.toList = s.data.toList then t else x :: t) ∧ w.grownBy w' (some b) := by
  have HL := Aside0.mk hL
  obtain ⟨A, c, hbk, hroom, hF⟩ := hL
  have HF := Aside0.mk hF
  have HOK := Aside0.mk hok
  obtain ⟨ad, rfl, hx0⟩ := Kd.at_string (Kd.F_now hF) 0 (by decide) (by simp)
  have hx : w.cell? ad = some (.string x) := by simpa [Addr.add, rdOf] using hx0
  obtain ⟨i0, hi0, _, hsz0, _⟩ := info_parts info9
  have hroom' : t.length + 1 ≤ c := hroom
  have hcut := cut_from (P := Tryd.prog) 45 9 .i64 Tryd.underlying45 hi0 1 hsz0 (some ad) (x :: t).length c 1 (by decide) (by simp; omega)
  obtain ⟨A1, hA1⟩ : ∃ A1, A1 = (if c = (1 : Int).toNat then some ad else (some ad : Option Addr).map (·.add ((1 : Int).toNat * 1))) := ⟨_, rfl⟩
  obtain ⟨c1, hc1⟩ : ∃ c1, c1 = c - (1 : Int).toNat := ⟨_, rfl⟩
  obtain ⟨n, hn⟩ : ∃ n, n = (x :: t).length := ⟨_, rfl⟩
  have hn1 : n - (1 : Int).toNat = t.length := by rw [hn]; simp
  rw [← hA1, ← hc1, ← hn, hn1] at hcut
  rw [← hn] at hbk
  have hn0 : ((n : Int) = 0) = False := eq_false (by have : 0 < n := by rw [hn]; exact Nat.succ_pos _
                                                     omega)
  have hnp : (0 : Int) < (n : Int) := by have : 0 < n := by rw [hn]; exact Nat.succ_pos _
                                         omega
  have hnp' := eq_true hnp
  have hn2 : 0 < n := by omega
  have q0 : w.cell? ⟨b, 0, none⟩ = some (.slice (some ad) n c) := (blk_cell hbk 0).trans rfl
  have z0 := blk_frozen hbk 0
  have BK := Aside0.mk hbk
  have HA1 := Aside0.mk hA1
  have HC1 := Aside0.mk hc1
  have HRM := Aside0.mk hroom'
  clear hbk hroom hF hx0 hi0 hsz0 hA1 hc1 hroom' hok hn hn1 hnp
  have hXL : x.data.toList = x.toList := by rw [ByteArray.toList_eq]
  have hSL : s.data.toList = s.toList := by rw [ByteArray.toList_eq]
  rw [hSL, hXL]
  clear hXL hSL
  by_cases hE : x.toList = s.toList
  · have hEt := eq_true hE
    have hEb : (x.toList == s.toList) = true := beq_iff_eq.2 hE
    rw [decide_eq_true hE, if_pos hE]
    clear hE
    go_enter Tryd.func42, Tryd.ntmps42
    go_wp2
    go_ret
    exact ⟨rfl, line_cut HRM.out HF.out HOK.out (Below.refl _ _) BK.out rfl HA1.out HC1.out, grown_set (Below.refl _ _) 0 _⟩
  · have hEt := eq_false hE
    have hEb : (x.toList == s.toList) = false := beq_eq_false_iff_ne.2 hE
    rw [decide_eq_false hE, if_neg hE]
    clear hE
    go_enter Tryd.func42, Tryd.ntmps42
    go_wp2
    go_ret
    exact ⟨rfl, HL.out, World.grownBy.refl _ _⟩
/-- The method word: the word is taken off if it is the first. -/
theorem word_calls (b : Nat) (s : ByteArray) (ws : List ByteArray) (ok : Nat → Prop) (w : World) (hL : Line w b ok ws) (hok : ∀ k, ok k → k ≠ b) (hs : s.data.toList ≠ []) :
    Calls Tryd.prog 42 #[.pointer (some ⟨b, 0, none⟩), .string s] w fun e w' => e = .returned (.bool (decide (hd ws = s.data.toList))) ∧ Line w' b ok (if hd ws = s.data.toList then ws.tail else ws) ∧ w.grownBy w' (some b) := by
  cases ws with
  | nil =>
    have h : hd [] ≠ s.data.toList := fun e => hs e.symm
    rw [decide_eq_false h, if_neg h]
    exact word_nil b s ok w hL
  | cons x t => exact word_cons b s x t ok w hL hok
end Go.Proofs.YtinmehodkeofaaaDoor.Q
namespace Go.Proofs.YtinmehodkeofaaaDoor.Q
open Go.RowKit Go.Proofs.YtinmehodkeofaaaDoorW.PrintWords Go.Proofs.YtinmehodkeofaaaDoorW.PrintLast Go.Proofs.YtinmehodkeofaaaDoorW.PrintMore
open Go.Maps
set_option linter.unusedVariables false
set_option linter.unusedSimpArgs false

theorem keyed9 : Keyed Tryd.prog 9 := string_keyed Tryd.underlying9
theorem zero3w (w : World) : (zeroValue 3).run Tryd.prog w = .ok (.int .i64 0) w := by kernel_rfl
/-- The map after k rounds. -/
def Cm : Nat → DataW Unit
  | 0 => .map []
  | k + 1 => if nameAt k = [] then Cm k else (Cm k).put (.string (nameAt k)) (.lit (.int .i64 k))
theorem Cm_isMap : ∀ k, IsMap (Cm k)
  | 0 => isMap_empty
  | k + 1 => by
    unfold Cm
    split
    · exact Cm_isMap k
    · exact (Cm_isMap k).put _ _
theorem name_ne : ∀ k, k < 20 → nameAt (k + 1) ≠ [] := by
  intro k hk
  have h : ∀ j : Fin 20, nameAt (j.val + 1) ≠ [] := by decide
  exact h ⟨k, hk⟩
theorem Cm_look (w : List UInt8) : ∀ k, k ≤ 20 → (Cm (k + 1)).atKey (.string w) (.lit (.int .i64 0)) = .lit (.int .i64 (opGo w k))
  | 0, _ => rfl
  | k + 1, hk => by
    rw [Cm, if_neg (name_ne k (by omega)), opGo]
    by_cases h : nameAt (k + 1) = w
    · rw [if_pos h, h, atKey_put_same (Cm_isMap _) (by trivial)]
    · rw [if_neg h, atKey_put_other (by intro e; injection e with e; exact h e.symm)]
      exact Cm_look w k (by omega)

theorem index_ops (k : Nat) (hk : k < 21) : ∀ W, (Instr.index 60 (.agg opsCells.toArray) (.int .i64 (k : Int))).run Tryd.prog W = .ok (.agg #[.string ⟨(nameAt k).toArray⟩, .int .i64 (arityAt k)]) W := by
  intro W
  obtain rfl | rfl | rfl | rfl | rfl | rfl | rfl | rfl | rfl | rfl | rfl | rfl | rfl | rfl | rfl | rfl | rfl | rfl | rfl | rfl | rfl : k = 0 ∨ k = 1 ∨ k = 2 ∨ k = 3 ∨ k = 4 ∨ k = 5 ∨ k = 6 ∨ k = 7 ∨ k = 8 ∨ k = 9 ∨ k = 10 ∨ k = 11 ∨ k = 12 ∨ k = 13 ∨ k = 14 ∨ k = 15 ∨ k = 16 ∨ k = 17 ∨ k = 18 ∨ k = 19 ∨ k = 20 := by omega
  all_goals kernel_rfl
theorem gate_load {P : Program} {ops : Array Oper} {rest : List Oper} {o : Oper} {a : Act} {Q : Exit → Act → World → Prop} {W : World} {ty : TypeId} {x : Operand} (_ho : o.op = .load ty x) (h : wpList P ops Q (o :: rest) a W) : wpList P ops Q (o :: rest) a W := h
theorem range_ops {W : World} (hT : Tabs W) : W.rangeAt 0 0 opsCells := fun j v hj => by rw [Nat.zero_add]; exact (ops_cell hT j).trans hj
theorem size_ops : (Tryd.prog.info? 60).map (·.size) = some opsCells.length := by kernel_rfl
set_option maxRecDepth 100000 in
set_option maxHeartbeats 400000 in
theorem names_calls (w : World) (hT : Tabs w) :
    Calls Tryd.prog 40 #[] w fun e w' => e = .returned (.map (some w.heap.size)) ∧ w'.ownsMap Tryd.prog 9 (plainElem Tryd.prog 3) w.heap.size 21 (Cm 21) ∧ Below w.heap.size w w' := by
  have hmm := @run_makeMap Tryd.prog
  have hb0 := (Below.refl w.heap.size w).alloc (Nat.le_refl _) (Obj.map #[] 0)
  have HLD := Aside0.mk (range_ops (tabs_step hT hb0))
  have hsz := size_ops
  have HIX := Aside0.mk index_ops
  obtain ⟨OA, hOA⟩ : ∃ OA, OA = opsCells := ⟨_, rfl⟩
  rw [← hOA] at HLD HIX hsz
  have HSZ := Aside0.mk hsz
  clear hOA hT hb0 hsz
  go_enter Tryd.func40, Tryd.ntmps40
  go_wp2_with (first | ((with_reducible refine gate_load (ty := 60) (x := .global 0) rfl ?_); refine wpList_load_mid rfl 60 (.global 0) rfl 0 0 rfl OA _ HLD.out Tryd.underlying60 rfl HSZ.out ?_))
  go_loopg [6] 21 (fun gk v6 wr => ∃ k : Nat, v6 = .int .i64 (k : Int) ∧ Aside0 (k + gk = 21) ∧ Aside0 (wr.ownsMap Tryd.prog 9 (plainElem (H := Unit) Tryd.prog 3) w.heap.size k (Cm k)) ∧ Aside0 (Below w.heap.size w wr))
  case atStart => exact ⟨0, rfl, ⟨rfl⟩, ⟨World.ownsMap_made _ _ _ _⟩, ⟨(Below.refl _ _).alloc (Nat.le_refl _) _⟩⟩
  case round =>
    obtain ⟨k, rfl, HK, HO, HB⟩ := hrel
    by_cases hk : k < 21
    · have hix := HIX.out k hk
      have HKE := Aside0.mk (fun (h : (nameAt k).toArray.size ≤ maxLen) => Go.WideMaps.keyOf_string_mk Tryd.underlying9 (s := ⟨(nameAt k).toArray⟩) h)
      have HSM := Aside0.mk (show (nameAt k).toArray.size ≤ maxLen by
        have h : ∀ j : Fin 21, (nameAt j.val).length ≤ 10 := by decide
        have h2 : (nameAt k).length ≤ 10 := h ⟨k, hk⟩
        simp only [List.size_toArray, maxLen]
        omega)
      by_cases hn : nameAt k = []
      · have hne : (nameAt k).isEmpty = true := by rw [hn]; rfl
        go_wp2_with (fail)
        go_roundg (gk - 1)
        case measure => have := HK.out; omega
        case rel => exact ⟨k + 1, by go_num, ⟨by have := HK.out; omega⟩, ⟨by rw [Cm, if_pos hn]; exact ((HO.out.mono (Nat.le_succ k)).alloc _)⟩, ⟨HB.out.alloc HB.out.size _⟩⟩
      · have hne : (nameAt k).isEmpty = false := by cases h : nameAt k with
          | nil => exact absurd h hn
          | cons _ _ => rfl
        go_wp2_with (first
          | (at_mapUpdate; refine wpList_mapUpdate_own _ rfl _ _ _ 78 rfl 9 3 keyed9 Tryd.underlying78 _ w.heap.size k _ rfl (HO.out.alloc _) (by have := hk; unfold maxLen; omega) _ _ _ rfl rfl (HKE.out HSM.out) _ [] (plainElem_int Tryd.underlying3 (WalkArith.wf_i64 (by omega))) ?_; intro w1 hown1 hgrow1))
        go_roundg (gk - 1)
        case measure => have := HK.out; omega
        case rel => exact ⟨k + 1, by go_num, ⟨by have := HK.out; omega⟩, ⟨by rw [Cm, if_neg hn]; simpa using hown1⟩, ⟨(HB.out.alloc HB.out.size _).grown hgrow1 (by simp; have := HB.out.size; omega) (fun j hj => by cases hj; exact Nat.le_refl _)⟩⟩
    · have hk21 : k = 21 := by have := HK.out; omega
      subst hk21
      go_wp2_with (fail)
      go_ret
      exact ⟨rfl, HO.out, HB.out⟩
end Go.Proofs.YtinmehodkeofaaaDoor.Q
namespace Go.Proofs.YtinmehodkeofaaaDoor.Q
open Go.RowKit Go.Proofs.YtinmehodkeofaaaDoorW.PrintWords Go.Proofs.YtinmehodkeofaaaDoorW.PrintLast Go.Proofs.YtinmehodkeofaaaDoorW.PrintMore
set_option linter.unusedVariables false
set_option linter.unusedSimpArgs false

/-! ### Plain laws -/
def pw (ws : List ByteArray) : List (List UInt8) := ws.map (·.data.toList)
theorem pw_drop (ws : List ByteArray) (k : Nat) : pw (ws.drop k) = (pw ws).drop k := List.map_drop
theorem hd_pw (ws : List ByteArray) : hd ws = (pw ws).getD 0 [] := by cases ws <;> rfl
theorem hd_drop (ws : List ByteArray) (k : Nat) : hd (ws.drop k) = (pw ws).getD k [] := by
  rw [hd_pw, pw_drop]
  simp [List.getD_eq_getElem?_getD, List.getElem?_drop]
theorem pw_nil {ws : List ByteArray} : pw ws = [] ↔ ws = [] := by simp [pw]
theorem head_pw (ws : List ByteArray) (s : List UInt8) (hs : s ≠ []) : (pw ws).head? = some s ↔ hd ws = s := by
  cases ws with
  | nil => simp only [pw, hd, List.map_nil, List.head?_nil, List.getD_nil]; exact ⟨fun e => (by cases e), fun e => absurd (show s = [] from e.symm) hs⟩
  | cons a r => simp [pw, hd]
theorem numsOf_snoc : ∀ (k : Nat) (ws : List (List UInt8)), numsOf (k + 1) ws = (numsOf k ws).bind fun a => (num (ws.getD k []) 65535).map fun v => a ++ [v]
  | 0, [] => by simp [numsOf, num_nil]
  | 0, w :: ws => by cases h : num w 65535 <;> simp [numsOf, h]
  | k + 1, [] => by simp [numsOf]
  | k + 1, w :: ws => by
    have ih := numsOf_snoc k ws
    rw [numsOf]
    rw [ih]
    cases h : num w 65535 with
    | none => simp [numsOf, h]
    | some v =>
      simp only [numsOf, h, Option.bind_some, List.getD_cons_succ]
      cases numsOf k ws with
      | none => rfl
      | some a => cases num (ws.getD k []) 65535 <;> simp

theorem flag_next (B : Bool) (j : Nat) (P : List (List UInt8)) : (B && (numsOf (j + 1) P).isSome) = ((B && (numsOf j P).isSome) && (num (P.getD j []) 65535).isSome) := by
  rw [numsOf_snoc]
  cases numsOf j P <;> cases num (P.getD j []) 65535 <;> simp
theorem args_next {j : Nat} {P : List (List UInt8)} {args : List Int} {nv : Int} (h : ∀ a, numsOf j P = some a → args = a) (hv : ∀ v, num (P.getD j []) 65535 = some v → nv = v) : ∀ a, numsOf (j + 1) P = some a → args ++ [nv] = a := by
  intro a ha
  rw [numsOf_snoc] at ha
  cases h1 : numsOf j P with
  | none => rw [h1] at ha; cases ha
  | some b =>
    cases h2 : num (P.getD j []) 65535 with
    | none => rw [h1, h2] at ha; cases ha
    | some v =>
      rw [h1, h2] at ha
      obtain rfl := Option.some.inj ha
      rw [h b h1, hv v h2]
theorem opOf_le (w : List UInt8) : opOf w ≤ 20 := by
  have : ∀ k, opGo w k ≤ k := by
    intro k
    induction k with
    | zero => exact Nat.le_refl _
    | succ k ih => unfold opGo; split <;> omega
  exact this 20
theorem arityAt_le (i : Nat) (h : i ≤ 20) : 0 ≤ arityAt i ∧ arityAt i ≤ 3 := by
  have h2 : ∀ j : Fin 21, 0 ≤ arityAt j.val ∧ arityAt j.val ≤ 3 := by decide
  exact h2 ⟨i, by omega⟩
/-- How many numbers command reads. -/
def cnt (op : Nat) : Nat := if op = 0 then 0 else (arityAt op).toNat
theorem cnt_le (op : Nat) (h : op ≤ 20) : cnt op ≤ 3 := by
  unfold cnt
  have := arityAt_le op h
  split <;> omega
theorem cnt_max (op : Nat) (h : op ≤ 20) : (if arity (op : Int) < 0 then (0 : Int) else arity (op : Int)) = (cnt op : Int) := by
  unfold cnt arity
  have := arityAt_le op h
  by_cases h0 : op = 0
  · subst h0; rfl
  · have hne : ¬ ((op : Int) ≤ 0 ∨ 21 ≤ (op : Int)) := by omega
    rw [if_neg hne, if_neg h0, Int.toNat_natCast]
    split
    · omega
    · omega

theorem len_zero (ws : List ByteArray) (n : Nat) (hn : n = ws.length) : decide (pw ws = []) = ((n : Int) == 0) := by
  subst hn
  cases ws with
  | nil => rfl
  | cons a r =>
    rw [decide_eq_false (by simp [pw])]
    symm
    rw [beq_eq_false_iff_ne]
    simp only [List.length_cons]
    omega
theorem getD_drop (P : List (List UInt8)) (j k : Nat) : (P.drop j).getD k [] = P.getD (j + k) [] := by simp [List.getD_eq_getElem?_getD, List.getElem?_drop]
theorem cut_yes {Q : List (List UInt8)} {n1 n2 : Int} (h : Q.head? = some cutW) (h1 : ∀ v, num (Q.getD 1 []) 65535 = some v → n1 = v) (h2 : ∀ v, num (Q.getD 2 []) 256 = some v → n2 = v) :
    (cutPart Q).isSome = ((num (Q.getD 1 []) 65535).isSome && (num (Q.getD 2 []) 256).isSome) ∧ ∀ y, cutPart Q = some y → y = (n1, n2, Q.drop 3) := by
  unfold cutPart
  rw [if_pos h]
  cases e1 : num (Q.getD 1 []) 65535 with
  | none => exact ⟨rfl, fun y hy => by cases hy⟩
  | some v1 =>
    cases e2 : num (Q.getD 2 []) 256 with
    | none => exact ⟨rfl, fun y hy => by cases hy⟩
    | some v2 =>
      refine ⟨rfl, fun y hy => ?_⟩
      rw [h1 v1 e1, h2 v2 e2]
      exact (Option.some.inj hy).symm
theorem cut_no {Q : List (List UInt8)} (h : Q.head? ≠ some cutW) : (cutPart Q).isSome = true ∧ ∀ y, cutPart Q = some y → y = (-1, 0, Q) := by
  unfold cutPart
  rw [if_neg h]
  exact ⟨rfl, fun y hy => (Option.some.inj hy).symm⟩
theorem noise_yes {Q : List (List UInt8)} {n1 : Int} (h : Q.head? = some noiseW) (h1 : ∀ v, num (Q.getD 1 []) 65535 = some v → n1 = v) :
    (noisePart Q).isSome = ((num (Q.getD 1 []) 65535).isSome && decide (0 < n1)) ∧ ∀ y, noisePart Q = some y → y = (n1, Q.drop 2) := by
  unfold noisePart
  rw [if_pos h]
  cases e1 : num (Q.getD 1 []) 65535 with
  | none => exact ⟨rfl, fun y hy => by cases hy⟩
  | some v1 =>
    rw [h1 v1 e1]
    simp only [Option.bind_some, Option.isSome_some, Bool.true_and]
    split
    · rename_i hp
      exact ⟨by rw [decide_eq_true hp]; rfl, fun y hy => (Option.some.inj hy).symm⟩
    · rename_i hp
      exact ⟨by rw [decide_eq_false hp]; rfl, fun y hy => by cases hy⟩
theorem noise_no {Q : List (List UInt8)} (h : Q.head? ≠ some noiseW) : (noisePart Q).isSome = true ∧ ∀ y, noisePart Q = some y → y = (0, Q) := by
  unfold noisePart
  rw [if_neg h]
  exact ⟨rfl, fun y hy => (Option.some.inj hy).symm⟩
theorem cmd_final {x : List UInt8} {T R Z : List (List UInt8)} {op N : Nat} {args : List Int} {c3 c4 n5 : Int} (hop : op = opOf x) (hN : N = cnt op) (ha : ∀ a, numsOf N T = some a → args = a) (hc : ∀ y, cutPart (T.drop N) = some y → y = (c3, c4, R)) (hn : ∀ z, noisePart R = some z → z = (n5, Z)) :
    (cmdOf (x :: T)).isSome = ((((decide (0 < op) && (numsOf N T).isSome) && (cutPart (T.drop N)).isSome) && (noisePart R).isSome) && decide (Z = [])) ∧ ∀ c, cmdOf (x :: T) = some c → c = ⟨(op : Int), args, c3, c4, n5⟩ := by
  unfold cmdOf
  simp only [List.getD_cons_zero, List.drop_succ_cons, List.drop_zero, ← hop]
  by_cases h0 : op = 0
  · rw [if_pos h0, h0]
    exact ⟨rfl, fun c h => by cases h⟩
  · have hN' : N = (arityAt op).toNat := by rw [hN, cnt, if_neg h0]
    rw [if_neg h0, ← hN', show 1 + N = N + 1 from Nat.add_comm _ _, List.drop_succ_cons, decide_eq_true (by omega : 0 < op), Bool.true_and]
    cases e1 : numsOf N T with
    | none => exact ⟨rfl, fun c h => by cases h⟩
    | some a =>
      obtain rfl := ha a e1
      simp only [Option.bind_some, Option.isSome_some, Bool.true_and]
      cases e2 : cutPart (T.drop N) with
      | none => exact ⟨rfl, fun c h => by cases h⟩
      | some y =>
        obtain rfl := hc y e2
        simp only [Option.bind_some, Option.isSome_some, Bool.true_and]
        cases e3 : noisePart R with
        | none => exact ⟨rfl, fun c h => by cases h⟩
        | some z =>
          obtain rfl := hn z e3
          simp only [Option.bind_some, Option.isSome_some, Bool.true_and]
          split
          · rename_i hz
            exact ⟨by rw [decide_eq_true hz]; rfl, fun c h => (Option.some.inj h).symm⟩
          · rename_i hz
            exact ⟨by rw [decide_eq_false hz]; rfl, fun c h => by cases h⟩

/-! ### Memory -/
theorem line_base {W W1 : World} {B b : Nat} {ok : Nat → Prop} {ws : List ByteArray} (h : Line W b ok ws) (hb : Below B W W1) (hbB : b < B) (hok : ∀ k, ok k → k < B) : Line W1 b ok ws := by
  obtain ⟨A, c, h1, h2, h3⟩ := h
  exact ⟨A, c, (hb.block b hbB).trans h1, h2, Kd.F_step h3 (fun k hk _ => hb.block k (hok k hk))⟩
theorem line_mono {W : World} {b : Nat} {ok ok' : Nat → Prop} {ws : List ByteArray} (h : Line W b ok ws) (hok : ∀ k, ok k → ok' k) : Line W b ok' ws := by
  obtain ⟨A, c, h1, h2, h3⟩ := h
  exact ⟨A, c, h1, h2, Kd.F_mono h3 hok⟩
theorem grown_base {w W W1 : World} {b : Nat} (h : w.grownBy W (some b)) (hb : Below w.heap.size W W1) : w.grownBy W1 (some b) :=
  ⟨hb.os.trans h.os, hb.tape.trans h.tape, hb.output.trans h.output, Nat.le_trans h.size hb.size, fun k hk hne => (hb.block k hk).trans (h.block k hk hne)⟩

def CMem (w : World) (b : Nat) (ok : Nat → Prop) (g : Nat) (op c3 c4 c5 : Int) (va : Value) (args : List Int) (ws : List ByteArray) (W : World) : Prop :=
  W.heap[w.heap.size]? = some (.cells #[.int .i64 0, .slice none 0 0, .int .i64 0, .int .i64 0, .int .i64 0] 31 (0, 0)) ∧ W.heap[g]? = some (.cells #[.int .i64 op, va, .int .i64 c3, .int .i64 c4, .int .i64 c5] 31 (0, 0)) ∧
    Kd.R (Kd.int .i64) 3 W w.heap.size (fun k => k ≠ w.heap.size ∧ k ≠ g) va args ∧ Line W b ok ws ∧ w.grownBy W (some b)
section
variable {w W W' : World} {b g : Nat} {ok : Nat → Prop} {op c3 c4 c5 : Int} {va : Value} {args : List Int} {ws ws' : List ByteArray}
theorem CMem.lineTo (h : CMem w b ok g op c3 c4 c5 va args ws W) (hb : b < w.heap.size) (hg : w.heap.size < g) (hL : Line W' b ok ws') (hgr : W.grownBy W' (some b)) : CMem w b ok g op c3 c4 c5 va args ws' W' := by
  obtain ⟨h1, h2, h3, h4, h5⟩ := h
  refine ⟨blk_grown h1 hgr (by simp; omega), blk_grown h2 hgr (by simp; omega), ?_, hL, World.grownBy.trans h5 hgr⟩
  refine Kd.R_mono (Kd.R_step (Kd.R_bound h3) (fun k hk hlt => hgr.block k hlt ?_)) (fun k hk => hk.1)
  have := hk.2.1
  intro e
  injection e with e
  omega
theorem CMem.line (h : CMem w b ok g op c3 c4 c5 va args ws W) : Line W b ok ws := h.2.2.2.1
theorem CMem.grown (h : CMem w b ok g op c3 c4 c5 va args ws W) : w.grownBy W (some b) := h.2.2.2.2
theorem CMem.blk (h : CMem w b ok g op c3 c4 c5 va args ws W) : W.heap[g]? = some (.cells #[.int .i64 op, va, .int .i64 c3, .int .i64 c4, .int .i64 c5] 31 (0, 0)) := h.2.1
theorem CMem.below (h : CMem w b ok g op c3 c4 c5 va args ws W) (hb : Below W.heap.size W W') : CMem w b ok g op c3 c4 c5 va args ws W' := by
  obtain ⟨h1, h2, h3, h4, h5⟩ := h
  exact ⟨blk_below h1 hb, blk_below h2 hb, Kd.R_below h3 hb, line_grown h4 hb, grown_base h5 (hb.mono h5.size)⟩
/-- A store into one of the struct's fields that hold numbers. -/
theorem CMem.put (h : CMem w b ok g op c3 c4 c5 va args ws W) (hb : b < w.heap.size) (hg : w.heap.size < g) (hok : ∀ k, ok k → k < w.heap.size) (i : Nat) (u : Value) {c3' c4' c5' : Int}
    (e : (#[.int .i64 op, va, .int .i64 c3, .int .i64 c4, .int .i64 c5] : Array Value).setIfInBounds i u = #[.int .i64 op, va, .int .i64 c3', .int .i64 c4', .int .i64 c5']) : CMem w b ok g op c3' c4' c5' va args ws (W.setCell ⟨g, i, none⟩ u) := by
  obtain ⟨h1, h2, h3, h4, h5⟩ := h
  have hB : Below w.heap.size W (W.setCell ⟨g, i, none⟩ u) := (Below.refl w.heap.size W).setCell (by show w.heap.size ≤ g; omega) u
  exact ⟨blk_far h1 (by show w.heap.size ≠ g; omega) u, blk_put h2 i u e, Kd.R_far h3 (p := ⟨g, i, none⟩) (fun k hk => hk.2) u, line_base h4 hB hb hok, grown_base h5 hB⟩
/-- The field of the arguments behind an append. -/
theorem CMem.app (h : CMem w b ok g op c3 c4 c5 va args ws W) (hb : b < w.heap.size) (hg : w.heap.size < g) (hok : ∀ k, ok k → k < w.heap.size) {v' : Value} {args' : List Int}
    (ho : Kd.R (Kd.int .i64) 3 W' w.heap.size (fun k => k ≠ w.heap.size ∧ k ≠ g) v' args') (hB : Below w.heap.size W W') (hgr : W.grownBy W' va.ownBlock) : CMem w b ok g op c3 c4 c5 v' args' ws (W'.setCell ⟨g, 1, none⟩ v') := by
  obtain ⟨h1, h2, h3, h4, h5⟩ := h
  have hne : ∀ k, va.ownBlock = some k → k ≠ w.heap.size ∧ k ≠ g := fun k hk => h3.1 k hk
  have hB2 : Below w.heap.size W (W'.setCell ⟨g, 1, none⟩ v') := hB.setCell (by show w.heap.size ≤ g; omega) v'
  exact ⟨blk_far (blk_grown h1 hgr (fun e => (hne _ e.symm).1 rfl)) (by show w.heap.size ≠ g; omega) _, blk_put (blk_grown h2 hgr (fun e => (hne _ e.symm).2 rfl)) 1 _ rfl, Kd.R_far ho (p := ⟨g, 1, none⟩) (fun k hk => hk.2) _, line_base h4 hB2 hb hok, grown_base h5 hB2⟩
end
end Go.Proofs.YtinmehodkeofaaaDoor.Q
namespace Go.Proofs.YtinmehodkeofaaaDoor.Q
open Go.RowKit Go.Proofs.YtinmehodkeofaaaDoorW.PrintWords Go.Proofs.YtinmehodkeofaaaDoorW.PrintLast Go.Proofs.YtinmehodkeofaaaDoorW.PrintMore
open Go.Maps
attribute [local go_sem] max2_int min2_int max_two min_two max_three min_three max_four min_four
set_option linter.unusedVariables false
set_option linter.unusedSimpArgs false

set_option maxRecDepth 100000 in
theorem look_names (W : World) (m : Nat) (hown : W.ownsMap Tryd.prog 9 (plainElem (H := Unit) Tryd.prog 3) m 21 (Cm 21)) (x : ByteArray) (hx : x.size ≤ 281474976710656) :
    (Instr.lookup 78 (.map (some m)) (.string x) false).run Tryd.prog W = .ok (.int .i64 (opOf x.data.toList : Int)) W := by
  have hkey : keyOf Tryd.prog 9 (.string x) = some (.string x.data.toList) := Go.WideMaps.keyOf_string_mk Tryd.underlying9 (by unfold maxLen; omega)
  obtain ⟨c, hrun, hat, _⟩ := hown.lookup_int keyed9 Tryd.underlying78 Tryd.underlying3 (zero3w W) hkey
  have h2 := hat.symm.trans (Cm_look x.data.toList 20 (Nat.le_refl _))
  injection h2 with h2
  injection h2 with _ h2
  rw [hrun, h2]
  unfold opOf
  rfl
def CmdPost (w : World) (b : Nat) (P : List (List UInt8)) (e : Ending) (w' : World) : Prop :=
  ∃ (c1 c3 c4 c5 : Int) (v : Value) (args : List Int), e = .returned (.tuple #[.agg #[.int .i64 c1, v, .int .i64 c3, .int .i64 c4, .int .i64 c5], .bool (cmdOf P).isSome]) ∧ (∀ c, cmdOf P = some c → c = ⟨c1, args, c3, c4, c5⟩) ∧
    Kd.R (Kd.int .i64) 3 w' w.heap.size (fun _ => True) v args ∧ w.grownBy w' (some b)
def zeroC : Array Value := #[.int .i64 0, .slice none 0 0, .int .i64 0, .int .i64 0, .int .i64 0]
/-- What region 1 leaves. -/
def CmdA (w : World) (b : Nat) (ok : Nat → Prop) (ws : List ByteArray) (op : Nat) (v4 : Value) (wc : World) : Prop :=
  ∃ g4, v4 = .pointer (some ⟨g4, 0, none⟩) ∧ w.heap.size < g4 ∧ wc.heap[w.heap.size]? = some (.cells zeroC 31 (0, 0)) ∧
    wc.heap[g4]? = some (.cells #[.int .i64 (op : Int), .slice none 0 0, .int .i64 (-1), .int .i64 0, .int .i64 0] 31 (0, 0)) ∧ Line wc b ok ws ∧ w.grownBy wc (some b)

set_option maxHeartbeats 8000000 in
set_option maxRecDepth 100000 in
theorem command_walk (b : Nat) (x : ByteArray) (t : List ByteArray) (ok : Nat → Prop) (w w0 : World) (hT : Tabs w0) (hB0 : Below w0.heap.size w0 w) (hb0 : w0.heap.size ≤ b) (hL : Line w b ok (x :: t)) (hok : ∀ k, ok k → k ≠ b ∧ k < w.heap.size) (hs : ∀ y ∈ x :: t, y.size ≤ 281474976710656) :
    Calls Tryd.prog 26 #[.pointer (some ⟨b, 0, none⟩)] w (CmdPost w b (pw (x :: t))) := by
  have HL := Aside0.mk hL
  obtain ⟨A, c, hbk, hroom, hF⟩ := hL
  have HF := Aside0.mk hF
  have HOK := Aside0.mk hok
  obtain ⟨ad, rfl, hx0⟩ := Kd.at_string (Kd.F_now hF) 0 (by decide) (by simp)
  have hx : w.cell? ad = some (.string x) := by simpa [Addr.add, rdOf] using hx0
  obtain ⟨n, hn⟩ : ∃ n, n = (x :: t).length := ⟨_, rfl⟩
  rw [← hn] at hbk
  have hnp : (0 : Int) < (n : Int) := by have : 0 < n := by rw [hn]; exact Nat.succ_pos _
                                         omega
  have hnp' := eq_true hnp
  have hn2 : 0 < n := by omega
  have q0 : w.cell? ⟨b, 0, none⟩ = some (.slice (some ad) n c) := (blk_cell hbk 0).trans rfl
  have hbl := blk_lt hbk
  have hadl := World.block_lt_of_cell? w _ hx
  have BK := Aside0.mk hbk
  have HRM := Aside0.mk hroom
  have HT := Aside0.mk hT
  have HNM := Lib.hid (fun (W : World) (h : Below w.heap.size w W) => names_calls W (tabs_step hT (hB0.trans (h.mono hB0.size))))
  have HN := Aside0.mk hn
  have HSX := Aside0.mk (hs x List.mem_cons_self)
  have HSZ := Aside0.mk (fun y hy => hs y (List.mem_cons_of_mem x hy))
  clear hbk hroom hF hx0 hnp hok hT hn hs
  have hu31 := Tryd.underlying31
  go_enter Tryd.func26, Tryd.ntmps26
  go_upto_region 1 with (fail)
  go_cut [4] (fun v4 wc => CmdA w b ok (x :: t) (opOf x.data.toList) v4 wc)
  case first =>
    refine start_ (n := 11) (S := fun w' => w'.cell? ⟨b, 0, none⟩ = some (.slice (some ad) n c) ∧ w'.cell? ad = some (.string x)) (ds := []) #[false, false, false, false, false, false, false, false, false, false, false] (by kernel_rfl) rfl rfl ⟨pw_cell_below (w := w) (by repeat (first | exact Below.refl _ _ | apply below_alloc | apply below_drew)) q0, pw_cell_below (w := w) (by repeat (first | exact Below.refl _ _ | apply below_alloc | apply below_drew)) hx⟩ (fun hHeld => ?_)
    have HW0 := Aside0.mk (show Below w.heap.size w (w.alloc (.cells #[.int .i64 0, .slice none 0 0, .int .i64 0, .int .i64 0, .int .i64 0] 31)).drew from by repeat (first | exact Below.refl _ _ | apply below_alloc | apply below_drew))
    have HZ0 := Aside0.mk (show (w.alloc (.cells #[.int .i64 0, .slice none 0 0, .int .i64 0, .int .i64 0, .int .i64 0] 31)).drew.heap[w.heap.size]? = some (.cells #[.int .i64 0, .slice none 0 0, .int .i64 0, .int .i64 0, .int .i64 0] 31 (0, 0)) from blk_new w _)
    have HS0 := Aside0.mk (show (w.alloc (.cells #[.int .i64 0, .slice none 0 0, .int .i64 0, .int .i64 0, .int .i64 0] 31)).drew.heap.size = w.heap.size + 1 from by simp)
    generalize (w.alloc (.cells #[.int .i64 0, .slice none 0 0, .int .i64 0, .int .i64 0, .int .i64 0] 31)).drew = W0 at HW0 HZ0 HS0 hHeld ⊢
    have HSS := Aside0.mk (fun (W : World) (h : Below W0.heap.size W0 W) => (⟨pw_cell_below h hHeld.1, pw_cell_below h hHeld.2⟩ : W.cell? ⟨b, 0, none⟩ = some (.slice (some ad) n c) ∧ W.cell? ad = some (.string x)))
    refine pure_ (i := 1) (N := some 13) (v := ?_) (a' := ?_) #[false, true, false, false, false, false, false, false, false, false, false] rfl rfl (by kernel_rfl) (fun _ _ _ h => h) (Or.inl ⟨by rfl, ?_⟩) ?_ ?_
    rotate_left
    · intro w'
      go_simp
      with_reducible rfl
    rotate_left
    · simp only [Act.put, List.setIfInBounds_toArray, List.set_cons_zero, List.set_cons_succ, i64_w, i32_w]
      rfl
    refine pure_ (i := 2) (N := some 14) (v := ?_) (a' := ?_) #[false, true, true, false, false, false, false, false, false, false, false] rfl rfl (by kernel_rfl) (fun _ _ _ h => h) (Or.inl ⟨by rfl, ?_⟩) ?_ ?_
    rotate_left
    · intro w'
      go_simp
      with_reducible rfl
    rotate_left
    · simp only [Act.put, List.setIfInBounds_toArray, List.set_cons_zero, List.set_cons_succ, i64_w, i32_w]
      rfl
    refine pure_ (i := 3) (N := some 15) (v := ?_) (a' := ?_) #[false, true, true, true, false, false, false, false, false, false, false] rfl rfl (by kernel_rfl) (fun _ _ _ h => h) (Or.inl ⟨by rfl, ?_⟩) ?_ ?_
    rotate_left
    · intro w'
      go_simp
      with_reducible rfl
    rotate_left
    · simp only [Act.put, List.setIfInBounds_toArray, List.set_cons_zero, List.set_cons_succ, i64_w, i32_w]
      rfl
    refine take_ (i := 4) (N := some 16) (v := ?_) (a' := ?_) #[false, true, true, true, true, false, false, false, false, false, false] rfl rfl (by kernel_rfl) (fun _ _ _ h => h) (Or.inl ⟨by rfl, ?_⟩) hHeld ?_ ?_
    rotate_left
    · rintro w' ⟨s0, s1⟩
      go_simp
      with_reducible rfl
    rotate_left
    · simp only [Act.put, List.setIfInBounds_toArray, List.set_cons_zero, List.set_cons_succ, i64_w, i32_w]
      rfl
    refine pure_ (i := 5) (N := some 17) (v := ?_) (a' := ?_) #[false, true, true, true, true, true, false, false, false, false, false] rfl rfl (by kernel_rfl) (fun _ _ _ h => h) (Or.inl ⟨by rfl, ?_⟩) ?_ ?_
    rotate_left
    · intro w'
      go_simp
      with_reducible rfl
    rotate_left
    · simp only [Act.put, List.setIfInBounds_toArray, List.set_cons_zero, List.set_cons_succ, i64_w, i32_w]
      rfl
    refine take_ (i := 6) (N := some 18) (v := ?_) (a' := ?_) #[false, true, true, true, true, true, true, false, false, false, false] rfl rfl (by kernel_rfl) (fun _ _ _ h => h) (Or.inl ⟨by rfl, ?_⟩) hHeld ?_ ?_
    rotate_left
    · rintro w' ⟨s0, s1⟩
      go_simp
      with_reducible rfl
    rotate_left
    · simp only [Act.put, List.setIfInBounds_toArray, List.set_cons_zero, List.set_cons_succ, i64_w, i32_w]
      rfl
    obtain ⟨opv, hop⟩ : ∃ opv : Int, opv = (opOf x.data.toList : Int) := ⟨_, rfl⟩
    have HOP := Aside0.mk hop
    clear hop
    refine join_ (σ := Nat × Nat) 1 #[true, true, true, true, true, true, true, true, true, true, false] (fun s => [(12, .map (some s.1)), (19, .int .i64 opv), (20, .agg #[.int .i64 opv, .slice none 0 0, .int .i64 (-1), .int .i64 0, .int .i64 0]), (4, .pointer (some ⟨s.2, 0, none⟩))]) (fun s W => W0.heap.size ≤ s.2 ∧ W.heap[s.2]? = some (.cells #[.int .i64 0, .slice none 0 0, .int .i64 0, .int .i64 0, .int .i64 0] 31 (0, 0)) ∧ Below W0.heap.size W0 W) ?_ ?_
    · rintro ⟨m, g⟩ W ⟨hg1, hg2, hg3⟩
      refine norm_ (a' := ?_) (by simp only [putAll, Act.put, List.setIfInBounds_toArray, List.set_cons_zero, List.set_cons_succ]; rfl) ?_
      have z0 : W.cell? ⟨g, 0, none⟩ = some (.int .i64 0) := (blk_cell hg2 0).trans rfl
      have z1 : W.cell? ⟨g, 1, none⟩ = some (.slice none 0 0) := (blk_cell hg2 1).trans rfl
      have z2 : W.cell? ⟨g, 2, none⟩ = some (.int .i64 0) := (blk_cell hg2 2).trans rfl
      have z3 : W.cell? ⟨g, 3, none⟩ = some (.int .i64 0) := (blk_cell hg2 3).trans rfl
      have z4 : W.cell? ⟨g, 4, none⟩ = some (.int .i64 0) := (blk_cell hg2 4).trans rfl
      have y0 := blk_frozen hg2 0
      have y1 := blk_frozen hg2 1
      have y2 := blk_frozen hg2 2
      have y3 := blk_frozen hg2 3
      have y4 := blk_frozen hg2 4
      have hSW := HSS.out W hg3
      have hgb : b < g := by have := HS0.out; omega
      have HG2 := Aside0.mk hg2
      have HG3 := Aside0.mk hg3
      clear hg2 hg3
      refine one_ (i := 10) (N := none) #[true, true, true, true, true, true, true, true, true, true, true] rfl rfl (by kernel_rfl) (by decide) (fun K hK => ?_)
      refine skip_ (w1 := ?_) (by rfl) rfl ?_ ?_
      rotate_left
      · go_simp
        rfl
      have hB5 := ((((HG3.out.setCell (p := ⟨g, 0, none⟩) hg1 (.int .i64 opv)).setCell (p := ⟨g, 1, none⟩) hg1 (.slice none 0 0)).setCell (p := ⟨g, 2, none⟩) hg1 (.int .i64 (-1))).setCell (p := ⟨g, 3, none⟩) hg1 (.int .i64 0)).setCell (p := ⟨g, 4, none⟩) hg1 (.int .i64 0)
      have hg5 := blk_put (blk_put (blk_put (blk_put (blk_put HG2.out 0 (.int .i64 opv) rfl) 1 (.slice none 0 0) rfl) 2 (.int .i64 (-1)) rfl) 3 (.int .i64 0) rfl) 4 (.int .i64 0) rfl
      have hw5 := HW0.out.trans (hB5.mono HW0.out.size)
      refine hK.out _ _ (HSS.out _ hB5) (fun _ => ?_)
      clear hK K
      refine done_ (by kernel_rfl) ?_
      go_wp2
      go_meet
      case rel => exact ⟨g, rfl, by have := HS0.out; omega, blk_below HZ0.out hB5, by rw [← HOP.out]; exact hg5, line_grown HL.out hw5, grown_of_below hw5 _⟩
    · intro hcont
      refine two_ (i := 0) (j := 9) (Ni := some 12) (Nj := some 4) #[true, true, true, true, true, true, true, false, false, false, false] #[false, true, true, true, true, true, true, false, false, true, false] rfl rfl rfl rfl (by kernel_rfl) (by decide) (by decide) (fun K hK => ?_) (fun K hK => ?_)
      · skip
        refine goes_ Tryd.func40 (by kernel_rfl) rfl #[] (by rfl) rfl rfl (by simp) ?_
        refine (HNM.out _ (HW0.out.trans (Below.mono (Below.refl W0.heap.size W0) HW0.out.size))).mono ?_
        rintro e w1 ⟨rfl, hown, hb1⟩
        have hB1 := (Below.refl W0.heap.size W0).trans (hb1.mono (Below.refl W0.heap.size W0).size)
        refine ⟨_, rfl, hK.out _ _ (HSS.out _ hB1) (fun _ => ?_)⟩
        clear hK K
        refine two_ (i := 7) (j := 9) (Ni := some 19) (Nj := some 4) #[true, true, true, true, true, true, true, true, false, false, false] #[true, true, true, true, true, true, true, false, false, true, false] rfl rfl rfl rfl (by kernel_rfl) (by decide) (by decide) (fun K hK => ?_) (fun K hK => ?_)
        · skip
          have hl := look_names (w1) ((W0).heap.size) (hown) x HSX.out
          rw [← HOP.out] at hl
          try simp only [World.size_alloc] at hl
          refine value_ (v := .int .i64 opv) (w1 := w1) (by rfl) rfl (by go_simp) ?_
          clear hl
          refine hK.out _ _ (HSS.out _ (hB1)) (fun _ => ?_)
          clear hK K
          refine two_ (i := 8) (j := 9) (Ni := some 20) (Nj := some 4) #[true, true, true, true, true, true, true, true, true, false, false] #[true, true, true, true, true, true, true, true, false, true, false] rfl rfl rfl rfl (by kernel_rfl) (by decide) (by decide) (fun K hK => ?_) (fun K hK => ?_)
          · skip
            refine value_ (v := .agg #[.int .i64 opv, .slice none 0 0, .int .i64 (-1), .int .i64 0, .int .i64 0]) (w1 := w1) (by rfl) rfl (by go_simp) ?_
            refine hK.out _ _ (HSS.out _ (hB1)) (fun _ => ?_)
            clear hK K
            refine one_ (i := 9) (N := some 4) #[true, true, true, true, true, true, true, true, true, true, false] rfl rfl (by kernel_rfl) (by decide) (fun K hK => ?_)
            refine value_ (v := .pointer (some ⟨(w1).heap.size, 0, none⟩)) (w1 := (w1).alloc (.cells #[.int .i64 0, .slice none 0 0, .int .i64 0, .int .i64 0, .int .i64 0] 31)) (by rfl) rfl (by go_simp) ?_
            have hB9 := below_alloc (hB1) (.cells #[.int .i64 0, .slice none 0 0, .int .i64 0, .int .i64 0, .int .i64 0] 31)
            refine hK.out _ _ (HSS.out _ hB9) (fun _ => ?_)
            clear hK K
            exact norm_ (a' := putAll _ _) (by (try simp only [World.size_alloc]); simp only [putAll, Act.put, List.setIfInBounds_toArray, List.set_cons_zero, List.set_cons_succ]) (hcont ((W0).heap.size, (w1).heap.size) _ ⟨(hB1).size, (blk_new _ _), hB9⟩)
          · skip
            refine value_ (v := .pointer (some ⟨(w1).heap.size, 0, none⟩)) (w1 := (w1).alloc (.cells #[.int .i64 0, .slice none 0 0, .int .i64 0, .int .i64 0, .int .i64 0] 31)) (by rfl) rfl (by go_simp) ?_
            have hB9 := below_alloc (hB1) (.cells #[.int .i64 0, .slice none 0 0, .int .i64 0, .int .i64 0, .int .i64 0] 31)
            refine hK.out _ _ (HSS.out _ hB9) (fun _ => ?_)
            clear hK K
            refine one_ (i := 8) (N := some 20) #[true, true, true, true, true, true, true, true, true, true, false] rfl rfl (by kernel_rfl) (by decide) (fun K hK => ?_)
            refine value_ (v := .agg #[.int .i64 opv, .slice none 0 0, .int .i64 (-1), .int .i64 0, .int .i64 0]) (w1 := ((w1).alloc (.cells #[.int .i64 0, .slice none 0 0, .int .i64 0, .int .i64 0, .int .i64 0] 31))) (by rfl) rfl (by go_simp) ?_
            refine hK.out _ _ (HSS.out _ (hB9)) (fun _ => ?_)
            clear hK K
            exact norm_ (a' := putAll _ _) (by (try simp only [World.size_alloc]); simp only [putAll, Act.put, List.setIfInBounds_toArray, List.set_cons_zero, List.set_cons_succ]) (hcont ((W0).heap.size, (w1).heap.size) _ ⟨(hB1).size, (blk_new _ _), hB9⟩)
        · skip
          refine value_ (v := .pointer (some ⟨(w1).heap.size, 0, none⟩)) (w1 := (w1).alloc (.cells #[.int .i64 0, .slice none 0 0, .int .i64 0, .int .i64 0, .int .i64 0] 31)) (by rfl) rfl (by go_simp) ?_
          have hB9 := below_alloc (hB1) (.cells #[.int .i64 0, .slice none 0 0, .int .i64 0, .int .i64 0, .int .i64 0] 31)
          refine hK.out _ _ (HSS.out _ hB9) (fun _ => ?_)
          clear hK K
          refine one_ (i := 7) (N := some 19) #[true, true, true, true, true, true, true, true, false, true, false] rfl rfl (by kernel_rfl) (by decide) (fun K hK => ?_)
          have hl := look_names (((w1).alloc (.cells #[.int .i64 0, .slice none 0 0, .int .i64 0, .int .i64 0, .int .i64 0] 31))) ((W0).heap.size) ((hown).alloc _) x HSX.out
          rw [← HOP.out] at hl
          try simp only [World.size_alloc] at hl
          refine value_ (v := .int .i64 opv) (w1 := ((w1).alloc (.cells #[.int .i64 0, .slice none 0 0, .int .i64 0, .int .i64 0, .int .i64 0] 31))) (by rfl) rfl (by go_simp) ?_
          clear hl
          refine hK.out _ _ (HSS.out _ (hB9)) (fun _ => ?_)
          clear hK K
          refine one_ (i := 8) (N := some 20) #[true, true, true, true, true, true, true, true, true, true, false] rfl rfl (by kernel_rfl) (by decide) (fun K hK => ?_)
          refine value_ (v := .agg #[.int .i64 opv, .slice none 0 0, .int .i64 (-1), .int .i64 0, .int .i64 0]) (w1 := ((w1).alloc (.cells #[.int .i64 0, .slice none 0 0, .int .i64 0, .int .i64 0, .int .i64 0] 31))) (by rfl) rfl (by go_simp) ?_
          refine hK.out _ _ (HSS.out _ (hB9)) (fun _ => ?_)
          clear hK K
          exact norm_ (a' := putAll _ _) (by (try simp only [World.size_alloc]); simp only [putAll, Act.put, List.setIfInBounds_toArray, List.set_cons_zero, List.set_cons_succ]) (hcont ((W0).heap.size, (w1).heap.size) _ ⟨(hB1).size, (blk_new _ _), hB9⟩)
      · skip
        refine value_ (v := .pointer (some ⟨(W0).heap.size, 0, none⟩)) (w1 := (W0).alloc (.cells #[.int .i64 0, .slice none 0 0, .int .i64 0, .int .i64 0, .int .i64 0] 31)) (by rfl) rfl (by go_simp) ?_
        have hB9 := below_alloc (Below.refl W0.heap.size W0) (.cells #[.int .i64 0, .slice none 0 0, .int .i64 0, .int .i64 0, .int .i64 0] 31)
        refine hK.out _ _ (HSS.out _ hB9) (fun _ => ?_)
        clear hK K
        refine one_ (i := 0) (N := some 12) #[true, true, true, true, true, true, true, false, false, true, false] rfl rfl (by kernel_rfl) (by decide) (fun K hK => ?_)
        refine goes_ Tryd.func40 (by kernel_rfl) rfl #[] (by rfl) rfl rfl (by simp) ?_
        refine (HNM.out _ (HW0.out.trans (Below.mono (hB9) HW0.out.size))).mono ?_
        rintro e w1 ⟨rfl, hown, hb1⟩
        have hB1 := (hB9).trans (hb1.mono (hB9).size)
        refine ⟨_, rfl, hK.out _ _ (HSS.out _ hB1) (fun _ => ?_)⟩
        have hc1 := blk_below ((blk_new _ _)) hb1
        clear hK K
        refine one_ (i := 7) (N := some 19) #[true, true, true, true, true, true, true, true, false, true, false] rfl rfl (by kernel_rfl) (by decide) (fun K hK => ?_)
        have hl := look_names (w1) ((((W0).alloc (.cells #[.int .i64 0, .slice none 0 0, .int .i64 0, .int .i64 0, .int .i64 0] 31))).heap.size) (hown) x HSX.out
        rw [← HOP.out] at hl
        try simp only [World.size_alloc] at hl
        refine value_ (v := .int .i64 opv) (w1 := w1) (by rfl) rfl (by go_simp) ?_
        clear hl
        refine hK.out _ _ (HSS.out _ (hB1)) (fun _ => ?_)
        clear hK K
        refine one_ (i := 8) (N := some 20) #[true, true, true, true, true, true, true, true, true, true, false] rfl rfl (by kernel_rfl) (by decide) (fun K hK => ?_)
        refine value_ (v := .agg #[.int .i64 opv, .slice none 0 0, .int .i64 (-1), .int .i64 0, .int .i64 0]) (w1 := w1) (by rfl) rfl (by go_simp) ?_
        refine hK.out _ _ (HSS.out _ (hB1)) (fun _ => ?_)
        clear hK K
        exact norm_ (a' := putAll _ _) (by (try simp only [World.size_alloc]); simp only [putAll, Act.put, List.setIfInBounds_toArray, List.set_cons_zero, List.set_cons_succ]) (hcont ((((W0).alloc (.cells #[.int .i64 0, .slice none 0 0, .int .i64 0, .int .i64 0, .int .i64 0] 31))).heap.size, (W0).heap.size) _ ⟨(Below.refl W0.heap.size W0).size, hc1, hB1⟩)
  case rest =>
    have hopl := opOf_le x.data.toList
    obtain ⟨op, hop⟩ : ∃ op, op = opOf x.data.toList := ⟨_, rfl⟩
    rw [← hop] at hcut hopl
    have HOPQ := Aside0.mk hop
    clear hop
    obtain ⟨g4, rfl, hg4, hz2, hc4, hL1, hgr⟩ := hcut
    clear q0 hx hnp' hn2 hadl HNM BK HRM HN HF
    clear ad n c
    have HM1 := Aside0.mk (show CMem w b ok g4 (op : Int) (-1) 0 0 (.slice none 0 0) [] (x :: t) wc from ⟨hz2, hc4, Kd.R_nil _ _ _ _ _, hL1, hgr⟩)
    obtain ⟨A, c, hbk, hroom, hF⟩ := hL1
    have hroom' : t.length + 1 ≤ c := hroom
    obtain ⟨i0, hi0, _, hsz0, _⟩ := info_parts info9
    have hcut := cut_from (P := Tryd.prog) 45 9 .i64 Tryd.underlying45 hi0 1 hsz0 A (x :: t).length c 1 (by decide) (by simp; omega)
    obtain ⟨A1, hA1⟩ : ∃ A1, A1 = (if c = (1 : Int).toNat then A else A.map (·.add ((1 : Int).toNat * 1))) := ⟨_, rfl⟩
    obtain ⟨c1, hc1⟩ : ∃ c1, c1 = c - (1 : Int).toNat := ⟨_, rfl⟩
    obtain ⟨n, hn⟩ : ∃ n, n = (x :: t).length := ⟨_, rfl⟩
    have hn1 : n - (1 : Int).toNat = t.length := by rw [hn]; simp
    rw [← hA1, ← hc1, ← hn, hn1] at hcut
    rw [← hn] at hbk
    have q0 : wc.cell? ⟨b, 0, none⟩ = some (.slice A n c) := (blk_cell hbk 0).trans rfl
    have y0 := blk_frozen hbk 0
    have HL2 := Aside0.mk (fun W h => line_cut (W := wc) (w1 := W) hroom' hF (fun k hk => (HOK.out k hk).1) h (blk_below hbk h) rfl hA1 hc1)
    clear hbk hroom hroom' hF hi0 hsz0 hA1 hc1 hn hn1 hz2 hc4 hgr
    go_upto_region 3 with (fail)
    have hL2 := HL2.out _ (Below.refl _ _)
    have HM2 := Aside0.mk (HM1.out.lineTo hbl hg4 hL2 (grown_set (Below.refl _ _) 0 _))
    clear HL2 HM1 hL2 q0 y0 hcut
    generalize wc.setCell ⟨b, 0, none⟩ (.slice A1 t.length c1) = w2 at HM2 ⊢
    obtain ⟨N, hN⟩ : ∃ N, N = cnt op := ⟨_, rfl⟩
    have hNm := cnt_max op hopl
    rw [← hN] at hNm
    have hN3 := cnt_le op hopl
    rw [← hN] at hN3
    have HAR := Lib.hid (fun (W : World) (h : Tabs W) => script_Arity.calls (op : Int) (arity (op : Int)) W h rfl)
    obtain ⟨ar, har⟩ : ∃ ar, ar = arity (op : Int) := ⟨_, rfl⟩
    rw [← har] at HAR hNm
    have HAR2 := Aside0.mk har
    have HNN := Aside0.mk hN
    clear har hN
    have hTB : ∀ W, w.grownBy W (some b) → Tabs W := fun W h => tabs_step HT.out ((hB0.grown h hB0.size (fun j hj => by cases hj; exact hb0)))
    have HTB := Aside0.mk hTB
    clear hTB
    have f0 : w2.cell? ⟨g4, 0, none⟩ = some (.int .i64 (op : Int)) := (blk_cell HM2.out.blk 0).trans rfl
    go_wp2_with (first | (go_at_call 15; refine (HAR.out _ (HTB.out _ HM2.out.grown)).mono ?_; rintro e w3 ⟨rfl, hb3⟩; have HM3 := Aside0.mk (HM2.out.below hb3); clear hb3))
    clear f0 HM2
    go_loopg [5, 36] N (fun k v5 v36 wr => ∃ (j : Nat) (va : Value) (args : List Int), v36 = .int .i64 (j : Int) ∧ v5 = .bool (decide (0 < op) && (numsOf j (pw t)).isSome) ∧ Aside0 (j + k = N) ∧ Aside0 (args.length = j) ∧ Aside0 (∀ a, numsOf j (pw t) = some a → args = a) ∧ Aside0 (CMem w b ok g4 (op : Int) (-1) 0 0 va args (t.drop j) wr))
    case atStart => exact ⟨0, _, [], rfl, by simp [numsOf], ⟨by omega⟩, ⟨rfl⟩, ⟨fun a ha => by simpa [numsOf] using ha⟩, ⟨HM3.out⟩⟩
    case round =>
      obtain ⟨j, va, args, rfl, rfl, HJ, HAL, HAV, HM⟩ := hrel
      clear HM3
      by_cases hj : j < N
      · have hjI : ((j : Int) < (N : Int)) = True := eq_true (by omega)
        have HNC := Lib.hid (number_calls b 65535 (by decide) (t.drop j) ok wr w0 HT.out (hB0.grown HM.out.grown hB0.size (fun k hk => by cases hk; exact hb0)) hb0 HM.out.line (fun k hk => (HOK.out k hk).1) (fun y hy => HSZ.out y (List.mem_of_mem_drop hy)))
        rw [hd_drop] at HNC
        obtain ⟨F, hF⟩ : ∃ F, F = (decide (0 < op) && (numsOf j (pw t)).isSome) := ⟨_, rfl⟩
        rw [← hF]
        have HF := Aside0.mk hF
        clear hF
        obtain ⟨r, hr⟩ : ∃ r, r = num ((pw t).getD j []) 65535 := ⟨_, rfl⟩
        rw [← hr] at HNC
        have HR := Aside0.mk hr
        clear hr
        cases F
        all_goals
          go_upto_region 8 with (first | (go_at_call 41; refine HNC.out.mono ?_; rintro e w5 ⟨nv, rfl, hval, hL5, hg5⟩; have HM5 := Aside0.mk (HM.out.lineTo hbl hg4 hL5 hg5); have HVAL := Aside0.mk hval; clear hval hL5 hg5))
          have hM5 := HM5.out
          have f1 : w5.cell? ⟨g4, 1, none⟩ = some va := (blk_cell hM5.blk 1).trans rfl
          have hgl := blk_lt hM5.blk
          have hgw : w.heap.size < w5.heap.size := blk_lt hM5.1
          have HFR := Aside0.mk (fun k (hk : w5.heap.size ≤ k) => (⟨by omega, by omega⟩ : k ≠ w.heap.size ∧ k ≠ g4))
          have HLE := Aside0.mk (show (args.length + 1) * 8 ≤ 140737488355328 by rw [HAL.out]; omega)
          have HGW := Aside0.mk (Nat.le_of_lt hgw)
          clear hM5 hgl hgw
          go_wp2_with (first
            | ((with_reducible refine gate_builtin (b := .append) (xs := #[.tmp 48, .tmp 50]) rfl ?_); at_builtin; refine Kd.R_append (Kd.int .i64) (w0 := w5) w.heap.size rfl (.tmp 48) (.tmp 50) 29 3 (.int .i64 0) 8 rfl Tryd.underlying29 info3 rfl (by decide) (by omega) va args nv [.int .i64 nv] (fun k => k ≠ w.heap.size ∧ k ≠ g4) (fun _ => False) rfl rfl rfl (fun _ hk => hk.elim) HFR.out HM5.out.2.2.1 (Below.refl _ _) HGW.out HLE.out ?_; intro v7 w7 ho hb hg hat; obtain ⟨A7, c7, e7⟩ := Kd.R_slice ho; obtain ⟨n7, hn7⟩ : ∃ n7, n7 = (args ++ [nv]).length := ⟨_, rfl⟩; rw [← hn7] at e7; subst e7; clear hn7; have h8 := HM5.out.app hbl hg4 (fun k hk => (HOK.out k hk).2) ho hb hg; have y1 := blk_frozen (blk_grown HM5.out.blk hg (fun e => (HM5.out.2.2.1.1 _ e.symm).2 rfl)) 1; have f7 : w7.cell? ⟨g4, 1, none⟩ = some va := (blk_cell (blk_grown HM5.out.blk hg (fun e => (HM5.out.2.2.1.1 _ e.symm).2 rfl)) 1).trans rfl; have HM8 := Aside0.mk h8; clear h8 ho hb hg hat))
          go_roundg (gk - 1)
          case measure => have := HJ.out; omega
          case rel => exact ⟨j + 1, _, args ++ [nv], by go_num, by rw [flag_next, ← HF.out, ← HR.out]; rfl, ⟨by have := HJ.out; omega⟩, ⟨by simp [HAL.out]⟩, ⟨args_next HAV.out (by rw [← HR.out]; exact HVAL.out)⟩, ⟨by have h := HM8.out; rw [List.tail_drop] at h; exact h⟩⟩
      · have hjN : j = N := by have := HJ.out; omega
        subst hjN
        have hjI : decide ((j : Int) < (j : Int)) = false := decide_eq_false (by omega)
        obtain ⟨F, hF⟩ : ∃ F, F = (decide (0 < op) && (numsOf j (pw t)).isSome) := ⟨_, rfl⟩
        rw [← hF]
        have HF := Aside0.mk hF
        clear hF
        have HW := Lib.hid (word_calls b ⟨#[99, 117, 116]⟩ (t.drop j) ok wr HM.out.line (fun k hk => (HOK.out k hk).1) (by decide))
        obtain ⟨cw, hcw⟩ : ∃ cw, cw = decide (hd (t.drop j) = (⟨#[99, 117, 116]⟩ : ByteArray).data.toList) := ⟨_, rfl⟩
        rw [← hcw] at HW
        have HCW := Aside0.mk hcw
        clear hcw
        go_upto_if 55 with (first | (go_at_call 42; refine HW.out.mono ?_; rintro e w5 ⟨rfl, hL5, hg5⟩; have HM5 := Aside0.mk (HM.out.lineTo hbl hg4 hL5 hg5); clear hL5 hg5))
        clear HM HW
        go_cut [5] (fun v5 wc => ∃ (c3 c4 : Int) (m : Nat), v5 = .bool (F && (cutPart ((pw t).drop j)).isSome) ∧ CMem w b ok g4 (op : Int) c3 c4 0 va args (t.drop m) wc ∧ ∀ y, cutPart ((pw t).drop j) = some y → y = (c3, c4, pw (t.drop m)))
        case first =>
          have hhd := head_pw (t.drop j) cutW (by decide)
          rw [pw_drop] at hhd
          cases cw with
          | false =>
            have hne : ¬ hd (t.drop j) = (⟨#[99, 117, 116]⟩ : ByteArray).data.toList := of_decide_eq_false HCW.out.symm
            obtain ⟨g1, g2⟩ := cut_no (fun e => hne (hhd.1 e))
            have HM6 := Aside0.mk (show CMem w b ok g4 (op : Int) (-1) 0 0 va args (t.drop j) w5 from by have h := HM5.out; rw [if_neg hne] at h; exact h)
            have HG1 := Aside0.mk g1
            have HG2 := Aside0.mk g2
            clear hne g1 g2 hhd
            go_wp2
            go_meet
            case rel => exact ⟨-1, 0, j, by rw [HG1.out, Bool.and_true], HM6.out, by rw [pw_drop]; exact HG2.out⟩
          | true =>
            have heq : hd (t.drop j) = (⟨#[99, 117, 116]⟩ : ByteArray).data.toList := of_decide_eq_true HCW.out.symm
            have HHD := Aside0.mk (hhd.2 heq)
            have HM6 := Aside0.mk (show CMem w b ok g4 (op : Int) (-1) 0 0 va args (t.drop (j + 1)) w5 from by have h := HM5.out; rw [if_pos heq, List.tail_drop] at h; exact h)
            clear heq hhd
            have hN1 := Lib.hid (number_calls b 65535 (by decide) (t.drop (j + 1)) ok w5 w0 HT.out (hB0.grown HM6.out.grown hB0.size (fun k hk => by cases hk; exact hb0)) hb0 HM6.out.line (fun k hk => (HOK.out k hk).1) (fun y hy => HSZ.out y (List.mem_of_mem_drop hy)))
            have hN2 := Lib.hid (fun (W : World) (c3 c4 : Int) (h : CMem w b ok g4 (op : Int) c3 c4 0 va args (t.drop (j + 2)) W) => number_calls b 256 (by decide) (t.drop (j + 2)) ok W w0 HT.out (hB0.grown h.grown hB0.size (fun k hk => by cases hk; exact hb0)) hb0 h.line (fun k hk => (HOK.out k hk).1) (fun y hy => HSZ.out y (List.mem_of_mem_drop hy)))
            rw [hd_drop, List.tail_drop] at hN1
            rw [hd_drop, List.tail_drop] at hN2
            obtain ⟨r1, hr1⟩ : ∃ r, r = num ((pw t).getD (j + 1) []) 65535 := ⟨_, rfl⟩
            obtain ⟨r2, hr2⟩ : ∃ r, r = num ((pw t).getD (j + 2) []) 256 := ⟨_, rfl⟩
            rw [← hr1] at hN1
            rw [← hr2] at hN2
            have HR1 := Aside0.mk hr1
            have HR2 := Aside0.mk hr2
            clear hr1 hr2
            have HRC := Aside0.mk (fun (n1 n2 : Int) (h1 : ∀ v, r1 = some v → n1 = v) (h2 : ∀ v, r2 = some v → n2 = v) => (by
              have h := cut_yes (Q := (pw t).drop j) (n1 := n1) (n2 := n2) HHD.out (by rw [getD_drop, ← HR1.out]; exact h1) (by rw [getD_drop, ← HR2.out]; exact h2)
              rw [getD_drop, getD_drop, ← HR1.out, ← HR2.out, List.drop_drop] at h
              exact h : (cutPart ((pw t).drop j)).isSome = (r1.isSome && r2.isSome) ∧ ∀ y, cutPart ((pw t).drop j) = some y → y = (n1, n2, (pw t).drop (j + 3))))
            clear HR1 HR2
            have HF0 := HF.out
            clear HF
            cases F
            all_goals
              have HF := Aside0.mk HF0
              clear HF0
              cases r1
              all_goals
                go_wp2_with (first
                  | (go_at_call 41; (with_reducible refine hN1.out.mono ?_); rintro e w6 ⟨n1, rfl, hv1, hL6, hg6⟩; have HM7 := Aside0.mk (HM6.out.lineTo hbl hg4 hL6 hg6); have f2 : w6.cell? ⟨g4, 2, none⟩ = some (.int .i64 (-1)) := (blk_cell HM7.out.blk 2).trans rfl; have y2 := blk_frozen HM7.out.blk 2; have HM8 := Aside0.mk (HM7.out.put hbl hg4 (fun k hk => (HOK.out k hk).2) 2 (.int .i64 n1) rfl); have HV1 := Aside0.mk hv1; clear hv1 hL6 hg6)
                  | (go_at_call 41; (with_reducible refine (hN2.out _ _ _ HM8.out).mono ?_); rintro e w9 ⟨n2, rfl, hv2, hL9, hg9⟩; have HM9 := Aside0.mk (HM8.out.lineTo hbl hg4 hL9 hg9); have f3 : w9.cell? ⟨g4, 3, none⟩ = some (.int .i64 0) := (blk_cell HM9.out.blk 3).trans rfl; have y3 := blk_frozen HM9.out.blk 3; have HM10 := Aside0.mk (HM9.out.put hbl hg4 (fun k hk => (HOK.out k hk).2) 3 (.int .i64 n2) rfl); have HV2 := Aside0.mk hv2; clear hv2 hL9 hg9))
                go_meet
                case rel => exact ⟨n1, n2, j + 3, by rw [(HRC.out n1 n2 HV1.out HV2.out).1]; first | rfl | simp, HM10.out, by rw [pw_drop]; exact (HRC.out n1 n2 HV1.out HV2.out).2⟩
        case rest =>
          obtain ⟨c3, c4, m, rfl, hM, hcp⟩ := hcut
          obtain ⟨G, hG⟩ : ∃ G, G = (F && (cutPart ((pw t).drop j)).isSome) := ⟨_, rfl⟩
          rw [← hG]
          have HG := Aside0.mk hG
          have HCP := Aside0.mk hcp
          have HMN := Aside0.mk hM
          clear hG hcp hM HM5 HCW
          have HW := Lib.hid (word_calls b ⟨#[110, 111, 105, 115, 101]⟩ (t.drop m) ok wc HMN.out.line (fun k hk => (HOK.out k hk).1) (by decide))
          obtain ⟨cw, hcw⟩ : ∃ cw, cw = decide (hd (t.drop m) = (⟨#[110, 111, 105, 115, 101]⟩ : ByteArray).data.toList) := ⟨_, rfl⟩
          rw [← hcw] at HW
          have HCW := Aside0.mk hcw
          clear hcw
          go_upto_if 76 with (first | (go_at_call 42; (with_reducible refine HW.out.mono ?_); rintro e w5 ⟨rfl, hL5, hg5⟩; have HM5 := Aside0.mk (HMN.out.lineTo hbl hg4 hL5 hg5); clear hL5 hg5))
          clear HMN HW
          go_cut [5] (fun v5 wc => ∃ (c5 : Int) (m2 : Nat), v5 = .bool (G && (noisePart (pw (t.drop m))).isSome) ∧ CMem w b ok g4 (op : Int) c3 c4 c5 va args (t.drop m2) wc ∧ ∀ z, noisePart (pw (t.drop m)) = some z → z = (c5, pw (t.drop m2)))
          case first =>
            have hhd := head_pw (t.drop m) noiseW (by decide)
            cases cw with
            | false =>
              have hne : ¬ hd (t.drop m) = (⟨#[110, 111, 105, 115, 101]⟩ : ByteArray).data.toList := of_decide_eq_false HCW.out.symm
              obtain ⟨g1, g2⟩ := noise_no (fun e => hne (hhd.1 e))
              have HM6 := Aside0.mk (show CMem w b ok g4 (op : Int) c3 c4 0 va args (t.drop m) w5 from by have h := HM5.out; rw [if_neg hne] at h; exact h)
              have HG1 := Aside0.mk g1
              have HG2 := Aside0.mk g2
              clear hne g1 g2 hhd
              go_wp2
              go_meet
              case rel => exact ⟨0, m, by rw [HG1.out, Bool.and_true], HM6.out, HG2.out⟩
            | true =>
              have heq : hd (t.drop m) = (⟨#[110, 111, 105, 115, 101]⟩ : ByteArray).data.toList := of_decide_eq_true HCW.out.symm
              have HHD := Aside0.mk (hhd.2 heq)
              have HM6 := Aside0.mk (show CMem w b ok g4 (op : Int) c3 c4 0 va args (t.drop (m + 1)) w5 from by have h := HM5.out; rw [if_pos heq, List.tail_drop] at h; exact h)
              clear heq hhd
              have hN1 := Lib.hid (number_calls b 65535 (by decide) (t.drop (m + 1)) ok w5 w0 HT.out (hB0.grown HM6.out.grown hB0.size (fun k hk => by cases hk; exact hb0)) hb0 HM6.out.line (fun k hk => (HOK.out k hk).1) (fun y hy => HSZ.out y (List.mem_of_mem_drop hy)))
              rw [hd_drop, List.tail_drop] at hN1
              obtain ⟨r1, hr1⟩ : ∃ r, r = num ((pw t).getD (m + 1) []) 65535 := ⟨_, rfl⟩
              rw [← hr1] at hN1
              have HRC := Aside0.mk (fun (n1 : Int) (h1 : ∀ v, r1 = some v → n1 = v) => (by
                have h := noise_yes (Q := pw (t.drop m)) (n1 := n1) HHD.out (by rw [pw_drop, getD_drop, ← hr1]; exact h1)
                rw [pw_drop, getD_drop, ← hr1, List.drop_drop] at h
                rw [pw_drop]
                exact h : (noisePart (pw (t.drop m))).isSome = (r1.isSome && decide (0 < n1)) ∧ ∀ y, noisePart (pw (t.drop m)) = some y → y = (n1, (pw t).drop (m + 2))))
              clear hr1
              have HG0 := HG.out
              clear HG
              cases G
              all_goals
                have HG := Aside0.mk HG0
                clear HG0
                cases r1
                all_goals
                  go_wp2_with (first
                    | (go_at_call 41; (with_reducible refine hN1.out.mono ?_); rintro e w6 ⟨n1, rfl, hv1, hL6, hg6⟩; have HM7 := Aside0.mk (HM6.out.lineTo hbl hg4 hL6 hg6); have f4 : w6.cell? ⟨g4, 4, none⟩ = some (.int .i64 0) := (blk_cell HM7.out.blk 4).trans rfl; have y4 := blk_frozen HM7.out.blk 4; have HM8 := Aside0.mk (HM7.out.put hbl hg4 (fun k hk => (HOK.out k hk).2) 4 (.int .i64 n1) rfl); have HV1 := Aside0.mk hv1; clear hv1 hL6 hg6))
                  go_meet
                  case rel => exact ⟨n1, m + 2, by rw [(HRC.out n1 HV1.out).1]; first | rfl | simp, HM8.out, by intro z hz; rw [pw_drop]; exact (HRC.out n1 HV1.out).2 z hz⟩
          case rest =>
            obtain ⟨c5, m2, rfl, hM, hnp⟩ := hcut
            obtain ⟨K5, hK5⟩ : ∃ K5, K5 = (G && (noisePart (pw (t.drop m))).isSome) := ⟨_, rfl⟩
            rw [← hK5]
            have HK5 := Aside0.mk hK5
            have HNP := Aside0.mk hnp
            have HMN := Aside0.mk hM
            clear hK5 hnp HM5 HCW
            obtain ⟨z2, hblk, hR, ⟨A, c, hbk, hroom, hF⟩, hgr⟩ := hM
            obtain ⟨Aa, ca, rfl⟩ := Kd.R_slice hR
            obtain ⟨n, hn⟩ : ∃ n, n = (t.drop m2).length := ⟨_, rfl⟩
            obtain ⟨na, hna⟩ : ∃ na, na = args.length := ⟨_, rfl⟩
            rw [← hn] at hbk
            rw [← hna] at hblk HMN
            have HNA := Aside0.mk hna
            have HLN := Aside0.mk hn
            have HCF := Aside0.mk (cmd_final (x := x.data.toList) (T := pw t) (op := op) (N := j) (args := args) (c3 := c3) (c4 := c4) (n5 := c5) HOPQ.out HNN.out HAV.out HCP.out HNP.out)
            rw [← HF.out, ← HG.out, ← HK5.out] at HCF
            have hz2 := z2
            clear hR hroom hF hgr z2 hn hna
            clear HK5 HG HF
            cases K5 with
            | true =>
              go_upto_region 18 with (fail)
              refine start_ (n := 12) (S := fun w' => w'.heap[b]? = some (.cells #[.slice A n c] 51 (0, 0)) ∧ w'.heap[g4]? = some (.cells #[.int .i64 (op : Int), .slice Aa na ca, .int .i64 c3, .int .i64 c4, .int .i64 c5] 31 (0, 0))) (ds := []) #[false, false, false, false, false, false, false, false, false, false, false, false] (by kernel_rfl) rfl rfl ⟨hbk, hblk⟩ (fun hHeld => ?_)
              have HZ := Aside0.mk (show wc.drew.heap[w.heap.size]? = some (.cells #[.int .i64 0, .slice none 0 0, .int .i64 0, .int .i64 0, .int .i64 0] 31 (0, 0)) from hz2)
              have HMD := Aside0.mk (HMN.out.below (below_drew (Below.refl wc.heap.size wc)))
              generalize wc.drew = W at HZ HMD hHeld ⊢
              refine take_ (i := 0) (N := some 92) (v := ?_) (a' := ?_) #[true, false, false, false, false, false, false, false, false, false, false, false] rfl rfl (by kernel_rfl) (fun _ _ _ h => h) (Or.inl ⟨by rfl, ?_⟩) hHeld ?_ ?_
              rotate_left
              · rintro w' ⟨h1, h2⟩
                have s0 : w'.cell? ⟨g4, 0, none⟩ = some (.int .i64 (op : Int)) := (blk_cell h2 0).trans rfl
                have s1 : w'.cell? ⟨g4, 1, none⟩ = some (.slice Aa na ca) := (blk_cell h2 1).trans rfl
                have s2 : w'.cell? ⟨g4, 2, none⟩ = some (.int .i64 c3) := (blk_cell h2 2).trans rfl
                have s3 : w'.cell? ⟨g4, 3, none⟩ = some (.int .i64 c4) := (blk_cell h2 3).trans rfl
                have s4 : w'.cell? ⟨g4, 4, none⟩ = some (.int .i64 c5) := (blk_cell h2 4).trans rfl
                clear h1 h2
                go_simp
                with_reducible rfl
              rotate_left
              · simp only [Act.put, List.setIfInBounds_toArray, List.set_cons_zero, List.set_cons_succ, i64_w, i32_w]
                rfl
              refine pure_ (i := 1) (N := some 93) (v := ?_) (a' := ?_) #[true, true, false, false, false, false, false, false, false, false, false, false] rfl rfl (by kernel_rfl) (fun _ _ _ h => h) (Or.inl ⟨by rfl, ?_⟩) ?_ ?_
              rotate_left
              · intro w'
                go_simp
                with_reducible rfl
              rotate_left
              · simp only [Act.put, List.setIfInBounds_toArray, List.set_cons_zero, List.set_cons_succ, i64_w, i32_w]
                rfl
              refine pure_ (i := 2) (N := some 94) (v := ?_) (a' := ?_) #[true, true, true, false, false, false, false, false, false, false, false, false] rfl rfl (by kernel_rfl) (fun _ _ _ h => h) (Or.inl ⟨by rfl, ?_⟩) ?_ ?_
              rotate_left
              · intro w'
                go_simp
                with_reducible rfl
              rotate_left
              · simp only [Act.put, List.setIfInBounds_toArray, List.set_cons_zero, List.set_cons_succ, i64_w, i32_w]
                rfl
              refine pure_ (i := 3) (N := some 95) (v := ?_) (a' := ?_) #[true, true, true, true, false, false, false, false, false, false, false, false] rfl rfl (by kernel_rfl) (fun _ _ _ h => h) (Or.inl ⟨by rfl, ?_⟩) ?_ ?_
              rotate_left
              · intro w'
                go_simp
                with_reducible rfl
              rotate_left
              · simp only [Act.put, List.setIfInBounds_toArray, List.set_cons_zero, List.set_cons_succ, i64_w, i32_w]
                rfl
              refine pure_ (i := 4) (N := some 96) (v := ?_) (a' := ?_) #[true, true, true, true, true, false, false, false, false, false, false, false] rfl rfl (by kernel_rfl) (fun _ _ _ h => h) (Or.inl ⟨by rfl, ?_⟩) ?_ ?_
              rotate_left
              · intro w'
                go_simp
                with_reducible rfl
              rotate_left
              · simp only [Act.put, List.setIfInBounds_toArray, List.set_cons_zero, List.set_cons_succ, i64_w, i32_w]
                rfl
              refine pure_ (i := 5) (N := some 97) (v := ?_) (a' := ?_) #[true, true, true, true, true, true, false, false, false, false, false, false] rfl rfl (by kernel_rfl) (fun _ _ _ h => h) (Or.inl ⟨by rfl, ?_⟩) ?_ ?_
              rotate_left
              · intro w'
                go_simp
                with_reducible rfl
              rotate_left
              · simp only [Act.put, List.setIfInBounds_toArray, List.set_cons_zero, List.set_cons_succ, i64_w, i32_w]
                rfl
              refine take_ (i := 6) (N := some 98) (v := ?_) (a' := ?_) #[true, true, true, true, true, true, true, false, false, false, false, false] rfl rfl (by kernel_rfl) (fun _ _ _ h => h) (Or.inl ⟨by rfl, ?_⟩) hHeld ?_ ?_
              rotate_left
              · rintro w' ⟨h1, h2⟩
                have s0 : w'.cell? ⟨b, 0, none⟩ = some (.slice A n c) := (blk_cell h1 0).trans rfl
                clear h1 h2
                go_simp
                with_reducible rfl
              rotate_left
              · simp only [Act.put, List.setIfInBounds_toArray, List.set_cons_zero, List.set_cons_succ, i64_w, i32_w]
                rfl
              refine pure_ (i := 7) (N := some 99) (v := ?_) (a' := ?_) #[true, true, true, true, true, true, true, true, false, false, false, false] rfl rfl (by kernel_rfl) (fun _ _ _ h => h) (Or.inl ⟨by rfl, ?_⟩) ?_ ?_
              rotate_left
              · intro w'
                go_simp
                with_reducible rfl
              rotate_left
              · simp only [Act.put, List.setIfInBounds_toArray, List.set_cons_zero, List.set_cons_succ, i64_w, i32_w]
                rfl
              refine pure_ (i := 8) (N := some 100) (v := ?_) (a' := ?_) #[true, true, true, true, true, true, true, true, true, false, false, false] rfl rfl (by kernel_rfl) (fun _ _ _ h => h) (Or.inl ⟨by rfl, ?_⟩) ?_ ?_
              rotate_left
              · intro w'
                go_simp
                with_reducible rfl
              rotate_left
              · simp only [Act.put, List.setIfInBounds_toArray, List.set_cons_zero, List.set_cons_succ, i64_w, i32_w]
                rfl
              refine pure_ (i := 9) (N := some 101) (v := ?_) (a' := ?_) #[true, true, true, true, true, true, true, true, true, true, false, false] rfl rfl (by kernel_rfl) (fun _ _ _ h => h) (Or.inl ⟨by rfl, ?_⟩) ?_ ?_
              rotate_left
              · intro w'
                go_simp
                with_reducible rfl
              rotate_left
              · simp only [Act.put, List.setIfInBounds_toArray, List.set_cons_zero, List.set_cons_succ, i64_w, i32_w]
                rfl
              have z0 : W.cell? ⟨w.heap.size, 0, none⟩ = some (.int .i64 0) := (blk_cell HZ.out 0).trans rfl
              have y0 := blk_frozen HZ.out 0
              have z1 : W.cell? ⟨w.heap.size, 1, none⟩ = some (.slice none 0 0) := (blk_cell HZ.out 1).trans rfl
              have y1 := blk_frozen HZ.out 1
              have z2 : W.cell? ⟨w.heap.size, 2, none⟩ = some (.int .i64 0) := (blk_cell HZ.out 2).trans rfl
              have y2 := blk_frozen HZ.out 2
              have z3 : W.cell? ⟨w.heap.size, 3, none⟩ = some (.int .i64 0) := (blk_cell HZ.out 3).trans rfl
              have y3 := blk_frozen HZ.out 3
              have z4 : W.cell? ⟨w.heap.size, 4, none⟩ = some (.int .i64 0) := (blk_cell HZ.out 4).trans rfl
              have y4 := blk_frozen HZ.out 4
              refine one_ (i := 10) (N := none) #[true, true, true, true, true, true, true, true, true, true, true, false] rfl rfl (by kernel_rfl) (by decide) (fun K hK => ?_)
              refine skip_ (w1 := ?_) (by rfl) rfl ?_ ?_
              rotate_left
              · go_simp
                rfl
              have hne1 : b ≠ w.heap.size := by omega
              have hne2 : g4 ≠ w.heap.size := by omega
              have HS5 := (⟨blk_far (blk_far (blk_far (blk_far (blk_far hHeld.1 (p := ⟨w.heap.size, 0, none⟩) hne1 (.int .i64 (op : Int))) (p := ⟨w.heap.size, 1, none⟩) hne1 (.slice Aa na ca)) (p := ⟨w.heap.size, 2, none⟩) hne1 (.int .i64 c3)) (p := ⟨w.heap.size, 3, none⟩) hne1 (.int .i64 c4)) (p := ⟨w.heap.size, 4, none⟩) hne1 (.int .i64 c5), blk_far (blk_far (blk_far (blk_far (blk_far hHeld.2 (p := ⟨w.heap.size, 0, none⟩) hne2 (.int .i64 (op : Int))) (p := ⟨w.heap.size, 1, none⟩) hne2 (.slice Aa na ca)) (p := ⟨w.heap.size, 2, none⟩) hne2 (.int .i64 c3)) (p := ⟨w.heap.size, 3, none⟩) hne2 (.int .i64 c4)) (p := ⟨w.heap.size, 4, none⟩) hne2 (.int .i64 c5)⟩ : (((((W.setCell ⟨w.heap.size, 0, none⟩ (.int .i64 (op : Int))).setCell ⟨w.heap.size, 1, none⟩ (.slice Aa na ca)).setCell ⟨w.heap.size, 2, none⟩ (.int .i64 c3)).setCell ⟨w.heap.size, 3, none⟩ (.int .i64 c4)).setCell ⟨w.heap.size, 4, none⟩ (.int .i64 c5)).heap[b]? = some (.cells #[.slice A n c] 51 (0, 0)) ∧ (((((W.setCell ⟨w.heap.size, 0, none⟩ (.int .i64 (op : Int))).setCell ⟨w.heap.size, 1, none⟩ (.slice Aa na ca)).setCell ⟨w.heap.size, 2, none⟩ (.int .i64 c3)).setCell ⟨w.heap.size, 3, none⟩ (.int .i64 c4)).setCell ⟨w.heap.size, 4, none⟩ (.int .i64 c5)).heap[g4]? = some (.cells #[.int .i64 (op : Int), .slice Aa na ca, .int .i64 c3, .int .i64 c4, .int .i64 c5] 31 (0, 0)))
              refine hK.out _ _ HS5 (fun _ => ?_)
              clear hK K HS5
              refine pure_ (i := 11) (N := some 3) (v := ?_) (a' := ?_) #[true, true, true, true, true, true, true, true, true, true, true, true] rfl rfl (by kernel_rfl) (fun _ _ _ h => h) (Or.inl ⟨by rfl, ?_⟩) ?_ ?_
              rotate_left
              · intro w'
                go_simp
                with_reducible rfl
              rotate_left
              · simp only [Act.put, List.setIfInBounds_toArray, List.set_cons_zero, List.set_cons_succ, i64_w, i32_w]
                rfl
              have hz5 := blk_put (blk_put (blk_put (blk_put (blk_put HZ.out 0 (.int .i64 (op : Int)) rfl) 1 (.slice Aa na ca) rfl) 2 (.int .i64 c3) rfl) 3 (.int .i64 c4) rfl) 4 (.int .i64 c5) rfl
              have hB5 := (((((Below.refl w.heap.size W).setCell (p := ⟨w.heap.size, 0, none⟩) (Nat.le_refl _) (.int .i64 (op : Int))).setCell (p := ⟨w.heap.size, 1, none⟩) (Nat.le_refl _) (.slice Aa na ca)).setCell (p := ⟨w.heap.size, 2, none⟩) (Nat.le_refl _) (.int .i64 c3)).setCell (p := ⟨w.heap.size, 3, none⟩) (Nat.le_refl _) (.int .i64 c4)).setCell (p := ⟨w.heap.size, 4, none⟩) (Nat.le_refl _) (.int .i64 c5)
              have hR5 := Kd.R_far (Kd.R_far (Kd.R_far (Kd.R_far (Kd.R_far HMD.out.2.2.1 (p := ⟨w.heap.size, 0, none⟩) (fun k hk => hk.1) (.int .i64 (op : Int))) (p := ⟨w.heap.size, 1, none⟩) (fun k hk => hk.1) (.slice Aa na ca)) (p := ⟨w.heap.size, 2, none⟩) (fun k hk => hk.1) (.int .i64 c3)) (p := ⟨w.heap.size, 3, none⟩) (fun k hk => hk.1) (.int .i64 c4)) (p := ⟨w.heap.size, 4, none⟩) (fun k hk => hk.1) (.int .i64 c5)
              have hgr5 := grown_base HMD.out.grown hB5
              have HFIN := Aside0.mk (⟨hz5, Kd.R_mono hR5 (fun _ _ => trivial), hgr5⟩ : _ ∧ Kd.R (Kd.int .i64) 3 _ w.heap.size (fun _ => True) _ _ ∧ _)
              clear hz5 hB5 hR5 hgr5
              refine done_ (by kernel_rfl) ?_
              go_wp2
              refine bodyPost_ret (results_ct rfl _ _ w.heap.size 31 _ (0, 0) _ rfl HFIN.out.1 Tryd.underlying31 rfl (by kernel_rfl)) rfl ?_
              exact ⟨(op : Int), c3, c4, c5, .slice Aa na ca, args, by rw [show (cmdOf (pw (x :: t))).isSome = _ from HCF.out.1]; rw [Bool.true_and, len_zero (t.drop m2) n HLN.out]; rfl, HCF.out.2, HFIN.out.2.1, HFIN.out.2.2⟩
            | false =>
              go_upto_region 18 with (fail)
              refine start_ (n := 12) (S := fun w' => w'.heap[b]? = some (.cells #[.slice A n c] 51 (0, 0)) ∧ w'.heap[g4]? = some (.cells #[.int .i64 (op : Int), .slice Aa na ca, .int .i64 c3, .int .i64 c4, .int .i64 c5] 31 (0, 0))) (ds := []) #[false, false, false, false, false, false, false, false, false, false, false, false] (by kernel_rfl) rfl rfl ⟨hbk, hblk⟩ (fun hHeld => ?_)
              have HZ := Aside0.mk (show wc.drew.heap[w.heap.size]? = some (.cells #[.int .i64 0, .slice none 0 0, .int .i64 0, .int .i64 0, .int .i64 0] 31 (0, 0)) from hz2)
              have HMD := Aside0.mk (HMN.out.below (below_drew (Below.refl wc.heap.size wc)))
              generalize wc.drew = W at HZ HMD hHeld ⊢
              refine take_ (i := 0) (N := some 92) (v := ?_) (a' := ?_) #[true, false, false, false, false, false, false, false, false, false, false, false] rfl rfl (by kernel_rfl) (fun _ _ _ h => h) (Or.inl ⟨by rfl, ?_⟩) hHeld ?_ ?_
              rotate_left
              · rintro w' ⟨h1, h2⟩
                have s0 : w'.cell? ⟨g4, 0, none⟩ = some (.int .i64 (op : Int)) := (blk_cell h2 0).trans rfl
                have s1 : w'.cell? ⟨g4, 1, none⟩ = some (.slice Aa na ca) := (blk_cell h2 1).trans rfl
                have s2 : w'.cell? ⟨g4, 2, none⟩ = some (.int .i64 c3) := (blk_cell h2 2).trans rfl
                have s3 : w'.cell? ⟨g4, 3, none⟩ = some (.int .i64 c4) := (blk_cell h2 3).trans rfl
                have s4 : w'.cell? ⟨g4, 4, none⟩ = some (.int .i64 c5) := (blk_cell h2 4).trans rfl
                clear h1 h2
                go_simp
                with_reducible rfl
              rotate_left
              · simp only [Act.put, List.setIfInBounds_toArray, List.set_cons_zero, List.set_cons_succ, i64_w, i32_w]
                rfl
              refine pure_ (i := 1) (N := some 93) (v := ?_) (a' := ?_) #[true, true, false, false, false, false, false, false, false, false, false, false] rfl rfl (by kernel_rfl) (fun _ _ _ h => h) (Or.inl ⟨by rfl, ?_⟩) ?_ ?_
              rotate_left
              · intro w'
                go_simp
                with_reducible rfl
              rotate_left
              · simp only [Act.put, List.setIfInBounds_toArray, List.set_cons_zero, List.set_cons_succ, i64_w, i32_w]
                rfl
              refine pure_ (i := 2) (N := some 94) (v := ?_) (a' := ?_) #[true, true, true, false, false, false, false, false, false, false, false, false] rfl rfl (by kernel_rfl) (fun _ _ _ h => h) (Or.inl ⟨by rfl, ?_⟩) ?_ ?_
              rotate_left
              · intro w'
                go_simp
                with_reducible rfl
              rotate_left
              · simp only [Act.put, List.setIfInBounds_toArray, List.set_cons_zero, List.set_cons_succ, i64_w, i32_w]
                rfl
              refine pure_ (i := 3) (N := some 95) (v := undef) (a' := ?_) #[true, true, true, true, false, false, false, false, false, false, false, false] rfl rfl (by kernel_rfl) (fun _ _ _ h => h) (Or.inr ⟨by rfl, rfl⟩) ?_ ?_
              rotate_left
              · simp only [Act.put, List.setIfInBounds_toArray, List.set_cons_zero, List.set_cons_succ, i64_w, i32_w]
                rfl
              refine pure_ (i := 4) (N := some 96) (v := undef) (a' := ?_) #[true, true, true, true, true, false, false, false, false, false, false, false] rfl rfl (by kernel_rfl) (fun _ _ _ h => h) (Or.inr ⟨by rfl, rfl⟩) ?_ ?_
              rotate_left
              · simp only [Act.put, List.setIfInBounds_toArray, List.set_cons_zero, List.set_cons_succ, i64_w, i32_w]
                rfl
              refine pure_ (i := 5) (N := some 97) (v := undef) (a' := ?_) #[true, true, true, true, true, true, false, false, false, false, false, false] rfl rfl (by kernel_rfl) (fun _ _ _ h => h) (Or.inr ⟨by rfl, rfl⟩) ?_ ?_
              rotate_left
              · simp only [Act.put, List.setIfInBounds_toArray, List.set_cons_zero, List.set_cons_succ, i64_w, i32_w]
                rfl
              refine pure_ (i := 6) (N := some 98) (v := undef) (a' := ?_) #[true, true, true, true, true, true, true, false, false, false, false, false] rfl rfl (by kernel_rfl) (fun _ _ _ h => h) (Or.inr ⟨by rfl, rfl⟩) ?_ ?_
              rotate_left
              · simp only [Act.put, List.setIfInBounds_toArray, List.set_cons_zero, List.set_cons_succ, i64_w, i32_w]
                rfl
              refine pure_ (i := 7) (N := some 99) (v := undef) (a' := ?_) #[true, true, true, true, true, true, true, true, false, false, false, false] rfl rfl (by kernel_rfl) (fun _ _ _ h => h) (Or.inr ⟨by rfl, rfl⟩) ?_ ?_
              rotate_left
              · simp only [Act.put, List.setIfInBounds_toArray, List.set_cons_zero, List.set_cons_succ, i64_w, i32_w]
                rfl
              refine pure_ (i := 8) (N := some 100) (v := undef) (a' := ?_) #[true, true, true, true, true, true, true, true, true, false, false, false] rfl rfl (by kernel_rfl) (fun _ _ _ h => h) (Or.inr ⟨by rfl, rfl⟩) ?_ ?_
              rotate_left
              · simp only [Act.put, List.setIfInBounds_toArray, List.set_cons_zero, List.set_cons_succ, i64_w, i32_w]
                rfl
              refine pure_ (i := 9) (N := some 101) (v := ?_) (a' := ?_) #[true, true, true, true, true, true, true, true, true, true, false, false] rfl rfl (by kernel_rfl) (fun _ _ _ h => h) (Or.inl ⟨by rfl, ?_⟩) ?_ ?_
              rotate_left
              · intro w'
                go_simp
                with_reducible rfl
              rotate_left
              · simp only [Act.put, List.setIfInBounds_toArray, List.set_cons_zero, List.set_cons_succ, i64_w, i32_w]
                rfl
              have z0 : W.cell? ⟨w.heap.size, 0, none⟩ = some (.int .i64 0) := (blk_cell HZ.out 0).trans rfl
              have y0 := blk_frozen HZ.out 0
              have z1 : W.cell? ⟨w.heap.size, 1, none⟩ = some (.slice none 0 0) := (blk_cell HZ.out 1).trans rfl
              have y1 := blk_frozen HZ.out 1
              have z2 : W.cell? ⟨w.heap.size, 2, none⟩ = some (.int .i64 0) := (blk_cell HZ.out 2).trans rfl
              have y2 := blk_frozen HZ.out 2
              have z3 : W.cell? ⟨w.heap.size, 3, none⟩ = some (.int .i64 0) := (blk_cell HZ.out 3).trans rfl
              have y3 := blk_frozen HZ.out 3
              have z4 : W.cell? ⟨w.heap.size, 4, none⟩ = some (.int .i64 0) := (blk_cell HZ.out 4).trans rfl
              have y4 := blk_frozen HZ.out 4
              refine one_ (i := 10) (N := none) #[true, true, true, true, true, true, true, true, true, true, true, false] rfl rfl (by kernel_rfl) (by decide) (fun K hK => ?_)
              refine skip_ (w1 := ?_) (by rfl) rfl ?_ ?_
              rotate_left
              · go_simp
                rfl
              have hne1 : b ≠ w.heap.size := by omega
              have hne2 : g4 ≠ w.heap.size := by omega
              have HS5 := (⟨blk_far (blk_far (blk_far (blk_far (blk_far hHeld.1 (p := ⟨w.heap.size, 0, none⟩) hne1 (.int .i64 (op : Int))) (p := ⟨w.heap.size, 1, none⟩) hne1 (.slice Aa na ca)) (p := ⟨w.heap.size, 2, none⟩) hne1 (.int .i64 c3)) (p := ⟨w.heap.size, 3, none⟩) hne1 (.int .i64 c4)) (p := ⟨w.heap.size, 4, none⟩) hne1 (.int .i64 c5), blk_far (blk_far (blk_far (blk_far (blk_far hHeld.2 (p := ⟨w.heap.size, 0, none⟩) hne2 (.int .i64 (op : Int))) (p := ⟨w.heap.size, 1, none⟩) hne2 (.slice Aa na ca)) (p := ⟨w.heap.size, 2, none⟩) hne2 (.int .i64 c3)) (p := ⟨w.heap.size, 3, none⟩) hne2 (.int .i64 c4)) (p := ⟨w.heap.size, 4, none⟩) hne2 (.int .i64 c5)⟩ : (((((W.setCell ⟨w.heap.size, 0, none⟩ (.int .i64 (op : Int))).setCell ⟨w.heap.size, 1, none⟩ (.slice Aa na ca)).setCell ⟨w.heap.size, 2, none⟩ (.int .i64 c3)).setCell ⟨w.heap.size, 3, none⟩ (.int .i64 c4)).setCell ⟨w.heap.size, 4, none⟩ (.int .i64 c5)).heap[b]? = some (.cells #[.slice A n c] 51 (0, 0)) ∧ (((((W.setCell ⟨w.heap.size, 0, none⟩ (.int .i64 (op : Int))).setCell ⟨w.heap.size, 1, none⟩ (.slice Aa na ca)).setCell ⟨w.heap.size, 2, none⟩ (.int .i64 c3)).setCell ⟨w.heap.size, 3, none⟩ (.int .i64 c4)).setCell ⟨w.heap.size, 4, none⟩ (.int .i64 c5)).heap[g4]? = some (.cells #[.int .i64 (op : Int), .slice Aa na ca, .int .i64 c3, .int .i64 c4, .int .i64 c5] 31 (0, 0)))
              refine hK.out _ _ HS5 (fun _ => ?_)
              clear hK K HS5
              refine pure_ (i := 11) (N := some 3) (v := ?_) (a' := ?_) #[true, true, true, true, true, true, true, true, true, true, true, true] rfl rfl (by kernel_rfl) (fun _ _ _ h => h) (Or.inl ⟨by rfl, ?_⟩) ?_ ?_
              rotate_left
              · intro w'
                go_simp
                with_reducible rfl
              rotate_left
              · simp only [Act.put, List.setIfInBounds_toArray, List.set_cons_zero, List.set_cons_succ, i64_w, i32_w]
                rfl
              have hz5 := blk_put (blk_put (blk_put (blk_put (blk_put HZ.out 0 (.int .i64 (op : Int)) rfl) 1 (.slice Aa na ca) rfl) 2 (.int .i64 c3) rfl) 3 (.int .i64 c4) rfl) 4 (.int .i64 c5) rfl
              have hB5 := (((((Below.refl w.heap.size W).setCell (p := ⟨w.heap.size, 0, none⟩) (Nat.le_refl _) (.int .i64 (op : Int))).setCell (p := ⟨w.heap.size, 1, none⟩) (Nat.le_refl _) (.slice Aa na ca)).setCell (p := ⟨w.heap.size, 2, none⟩) (Nat.le_refl _) (.int .i64 c3)).setCell (p := ⟨w.heap.size, 3, none⟩) (Nat.le_refl _) (.int .i64 c4)).setCell (p := ⟨w.heap.size, 4, none⟩) (Nat.le_refl _) (.int .i64 c5)
              have hR5 := Kd.R_far (Kd.R_far (Kd.R_far (Kd.R_far (Kd.R_far HMD.out.2.2.1 (p := ⟨w.heap.size, 0, none⟩) (fun k hk => hk.1) (.int .i64 (op : Int))) (p := ⟨w.heap.size, 1, none⟩) (fun k hk => hk.1) (.slice Aa na ca)) (p := ⟨w.heap.size, 2, none⟩) (fun k hk => hk.1) (.int .i64 c3)) (p := ⟨w.heap.size, 3, none⟩) (fun k hk => hk.1) (.int .i64 c4)) (p := ⟨w.heap.size, 4, none⟩) (fun k hk => hk.1) (.int .i64 c5)
              have hgr5 := grown_base HMD.out.grown hB5
              have HFIN := Aside0.mk (⟨hz5, Kd.R_mono hR5 (fun _ _ => trivial), hgr5⟩ : _ ∧ Kd.R (Kd.int .i64) 3 _ w.heap.size (fun _ => True) _ _ ∧ _)
              clear hz5 hB5 hR5 hgr5
              refine done_ (by kernel_rfl) ?_
              go_wp2
              refine bodyPost_ret (results_ct rfl _ _ w.heap.size 31 _ (0, 0) _ rfl HFIN.out.1 Tryd.underlying31 rfl (by kernel_rfl)) rfl ?_
              exact ⟨(op : Int), c3, c4, c5, .slice Aa na ca, args, by rw [show (cmdOf (pw (x :: t))).isSome = _ from HCF.out.1]; rfl, HCF.out.2, HFIN.out.2.1, HFIN.out.2.2⟩

/-- The method command, at a line that has words. -/
theorem command_calls (b : Nat) (ws : List ByteArray) (ok : Nat → Prop) (w w0 : World) (hne : ws ≠ []) (hT : Tabs w0) (hB0 : Below w0.heap.size w0 w) (hb0 : w0.heap.size ≤ b) (hL : Line w b ok ws) (hok : ∀ k, ok k → k ≠ b ∧ k < w.heap.size) (hs : ∀ y ∈ ws, y.size ≤ 281474976710656) :
    Calls Tryd.prog 26 #[.pointer (some ⟨b, 0, none⟩)] w (CmdPost w b (pw ws)) := by
  cases ws with
  | nil => exact absurd rfl hne
  | cons x t => exact command_walk b x t ok w w0 hT hB0 hb0 hL hok hs
end Go.Proofs.YtinmehodkeofaaaDoor.Q
namespace Go.Proofs.YtinmehodkeofaaaDoor.Q
open Go.Lib
set_option linter.unusedVariables false
set_option linter.unusedSimpArgs false

def mapHead (f : List UInt8 → List UInt8) : List (List UInt8) → List (List UInt8)
  | [] => []
  | a :: r => f a :: r
theorem linesGo_head (w : List UInt8) : ∀ (l x : List UInt8), linesGo (w ++ x) l = mapHead (w ++ ·) (linesGo x l)
  | [], x => rfl
  | c :: l, x => by
    simp only [linesGo]
    split
    · rfl
    · rw [List.append_assoc]
      exact linesGo_head w l (x ++ [c])
theorem linesOf_cons (c : UInt8) (l : List UInt8) (h : c ≠ 10) : linesOf (c :: l) = mapHead (c :: ·) (linesOf l) := by
  have := linesGo_head [c] l []
  simp only [linesOf, linesGo, if_neg h, List.nil_append]
  rw [List.append_nil] at this
  rw [this]
  rfl
theorem linesOf_nl (l : List UInt8) : linesOf (10 :: l) = [] :: linesOf l := by simp [linesOf, linesGo]

theorem index_nl (l : List UInt8) : index (10 :: l) [10] = 0 := by simp [index, List.isPrefixOf]
theorem index_other (c : UInt8) (l : List UInt8) (h : c ≠ 10) : index (c :: l) [10] = if index l [10] == -1 then -1 else index l [10] + 1 := by
  have : ([10] : List UInt8).isPrefixOf (c :: l) = false := by
    simp only [List.isPrefixOf, Bool.and_true, beq_eq_false_iff_ne]
    exact fun e => h e.symm
  simp [index, this]
theorem split_lines : ∀ s : List UInt8, splitK [10] 0 (count s [10]) s = linesOf s
  | [] => by
    rw [count_miss (by rfl)]
    rfl
  | c :: l => by
    have ih := split_lines l
    by_cases h : c = 10
    · subst h
      rw [count_hit (i := 0) (by simp) (index_nl l), linesOf_nl, Nat.add_comm 1 _]
      simp only [List.length_singleton, Nat.zero_add, List.drop_succ_cons, List.drop_zero, splitK, index_nl]
      rw [if_neg (by decide)]
      simp only [Int.toNat_zero, Nat.zero_add, List.take_zero, List.length_singleton, List.drop_succ_cons, List.drop_zero]
      rw [ih]
    · rw [linesOf_cons c l h, ← ih]
      by_cases hm : index l [10] = -1
      · have h1 : index (c :: l) [10] = -1 := by rw [index_other c l h, hm]; rfl
        rw [count_miss h1, count_miss hm]
        rfl
      · have hge := index_ge l [10]
        obtain ⟨i, hi⟩ : ∃ i : Nat, index l [10] = (i : Int) := ⟨(index l [10]).toNat, by omega⟩
        have h1 : index (c :: l) [10] = ((i + 1 : Nat) : Int) := by
          rw [index_other c l h, if_neg (by rw [beq_iff_eq]; exact hm), hi]
          rfl
        rw [count_hit (i := i + 1) (by simp) h1, count_hit (i := i) (by simp) hi, Nat.add_comm 1 _, Nat.add_comm 1 _]
        simp only [List.length_singleton, List.drop_succ_cons, splitK, h1, hi]
        rw [if_neg (by rw [beq_iff_eq]; omega), if_neg (by rw [beq_iff_eq]; omega)]
        simp [mapHead]
theorem pieces_lines (s : ByteArray) : (splitB ⟨#[10]⟩ 0 (countB s ⟨#[10]⟩) s).map (·.data.toList) = linesOf s.data.toList := by
  rw [splitB_data]
  exact split_lines s.data.toList
theorem pieces_size (sep : ByteArray) : ∀ (k : Nat) (s : ByteArray), ∀ y ∈ splitB sep 0 k s, y.size ≤ s.size
  | 0, s => by intro y hy; rw [splitB_zero, List.mem_singleton] at hy; subst hy; exact Nat.le_refl _
  | k + 1, s => by
    intro y hy
    unfold splitB at hy
    split at hy
    · rw [List.mem_singleton] at hy; subst hy; exact Nat.le_refl _
    · rcases List.mem_cons.1 hy with rfl | hy
      · rw [ByteArray.size_extract]; omega
      · have := pieces_size sep k _ y hy
        rw [ByteArray.size_extract] at this
        omega

/-! ### Words -/
def sepN (n : Nat) : Bool := n == 32 || n == 9
theorem sepN_byte (c : UInt8) : sepN c.toNat = isSep c := by
  have h : ∀ k : UInt8, (c.toNat == k.toNat) = (c == k) := by
    intro k
    rw [Bool.eq_iff_iff, beq_iff_eq, beq_iff_eq]
    exact UInt8.toNat_inj
  have h1 := h 32
  have h2 := h 9
  unfold sepN isSep
  rw [← h1, ← h2]
  rfl
theorem sep_high (c : UInt8) (h : 128 ≤ c.toNat) : isSep c = false := by
  rw [← sepN_byte]
  unfold sepN
  rw [Bool.or_eq_false_iff, beq_eq_false_iff_ne, beq_eq_false_iff_ne]
  omega
theorem wordsGo_skip : ∀ (k : Nat) (cur l : List UInt8), k ≤ l.length → (∀ j, j < k → isSep (l.getD j 0) = false) → wordsGo cur l = wordsGo (cur ++ l.take k) (l.drop k)
  | 0, cur, l, _, _ => by simp
  | k + 1, cur, [], h, _ => by simp at h
  | k + 1, cur, b :: t, h, hz => by
    have h0 := hz 0 (by omega)
    rw [List.getD_cons_zero] at h0
    rw [wordsGo, h0, if_neg (by simp), wordsGo_skip k (cur ++ [b]) t (by simp at h; omega) (fun j hj => by have := hz (j + 1) (by omega); simpa using this)]
    simp
/-- In front of a rune that is no separator none of its bytes is one. -/
theorem rune_bytes (l : List UInt8) (hne : l ≠ []) (hs : sepN (decodeL l).1 = false) : (decodeL l).2 ≤ l.length ∧ ∀ j, j < (decodeL l).2 → isSep (l.getD j 0) = false := by
  have hl : 0 < l.length := List.length_pos_iff.2 hne
  have hc := decodeN_conts l.length (l.getD 0 0).toNat (l.getD 1 0).toNat (l.getD 2 0).toNat (l.getD 3 0).toNat
  rw [← decodeL_N] at hc
  obtain ⟨c2, c3, c4, c5⟩ := hc
  have hw := decodeL_width l
  refine ⟨by omega, fun j hj => ?_⟩
  by_cases hj0 : j = 0
  · subst hj0
    by_cases ha : (l.getD 0 0).toNat < 128
    · cases l with
      | nil => exact absurd rfl hne
      | cons a t =>
        rw [List.getD_cons_zero] at ha ⊢
        rw [decodeL_ascii a t ha] at hs
        rw [← sepN_byte]
        exact hs
    · exact sep_high _ (by omega)
  · refine sep_high _ ?_
    obtain rfl | rfl | rfl : j = 1 ∨ j = 2 ∨ j = 3 := by omega
    · have := (c2 (by omega)).1; omega
    · have := (c3 (by omega)).1; omega
    · have := (c4 (by omega)).1; omega
/-- A separator is one byte. -/
theorem rune_sep (l : List UInt8) (hne : l ≠ []) (hs : sepN (decodeL l).1 = true) : (decodeL l).2 = 1 ∧ ∃ c t, l = c :: t ∧ isSep c = true := by
  cases l with
  | nil => exact absurd rfl hne
  | cons a t =>
    by_cases ha : a.toNat < 128
    · rw [decodeL_ascii a t ha] at hs ⊢
      exact ⟨rfl, a, t, rfl, by rw [← sepN_byte]; exact hs⟩
    · exfalso
      have hsz : 0 < (⟨(a :: t).toArray⟩ : ByteArray).size := by simp [ByteArray.size]
      have h1 := (decode_high ⟨(a :: t).toArray⟩ 0 hsz (by
        show 128 ≤ a.toNat
        omega)).1
      have h2 := decodeL_drop ⟨(a :: t).toArray⟩ 0
      rw [List.drop_zero, show ((⟨(a :: t).toArray⟩ : ByteArray).data.toList) = a :: t from rfl] at h2
      rw [h2] at hs
      unfold sepN at hs
      rw [Bool.or_eq_true, beq_iff_eq, beq_iff_eq] at hs
      omega

theorem wordsGo_nil (cur : List UInt8) : wordsGo cur [] = if cur = [] then [] else [cur] := rfl
theorem spansP_eq (s : ByteArray) : ∀ (f pos : Nat) (st : Option Nat) (acc : List (Nat × Nat)), s.size ≤ pos + f → pos ≤ s.size → (∀ a, st = some a → a < pos) →
    acc.map (fun p => pieceU s.data.toList p.1 p.2) ++ wordsGo (openPiece s.data.toList st pos) (s.data.toList.drop pos) = (closeSpans s (spansFromP sepN s f pos st acc)).map (fun p => pieceU s.data.toList p.1 p.2)
  | 0, pos, st, acc, h, hp, hst => by
    obtain rfl : pos = s.size := by omega
    have hd : s.data.toList.drop s.size = [] := List.drop_eq_nil_of_le (by rw [← size_eq]; exact Nat.le_refl _)
    rw [hd, wordsGo_nil]
    cases st with
    | none => simp [spansFromP, closeSpans, openPiece]
    | some a =>
      have := pieceU_ne s.data.toList a s.size (hst a rfl) (by rw [← size_eq]; exact Nat.le_refl _)
      simp [spansFromP, closeSpans, openPiece, this]
  | f + 1, pos, st, acc, h, hp, hst => by
    by_cases hlt : pos < s.size
    · have hne : s.data.toList.drop pos ≠ [] := by
        intro h0
        have := congrArg List.length h0
        rw [List.length_drop, ← size_eq] at this
        simp at this
        omega
      have hw := width_pos s pos
      simp only [spansFromP, if_pos hlt]
      cases hsp : sepN (Utf8.decode s pos).1 with
      | true =>
        rw [← decodeL_drop] at hsp
        obtain ⟨h1, c, t, hct, hcs⟩ := rune_sep _ hne hsp
        rw [decodeL_drop] at h1
        have hdt : s.data.toList.drop (pos + 1) = t := by rw [← List.drop_drop, hct]; rfl
        simp only [if_true]
        rw [h1, hct]
        simp only [wordsGo, hcs, if_true]
        cases st with
        | none =>
          have ih := spansP_eq s f (pos + 1) none acc (by omega) (by omega) (fun a h => by cases h)
          rw [hdt] at ih
          simpa [openPiece] using ih
        | some a =>
          have hpn := pieceU_ne s.data.toList a pos (hst a rfl) (by rw [← size_eq]; omega)
          have ih := spansP_eq s f (pos + 1) none (acc ++ [(a, pos)]) (by omega) (by omega) (fun a h => by cases h)
          rw [hdt] at ih
          simpa [openPiece, hpn] using ih
      | false =>
        rw [← decodeL_drop] at hsp
        obtain ⟨h1, h2⟩ := rune_bytes _ hne hsp
        rw [decodeL_drop] at h1 h2
        rw [List.length_drop, ← size_eq] at h1
        have hk := wordsGo_skip (Utf8.decode s pos).2 (openPiece s.data.toList st pos) (s.data.toList.drop pos) (by rw [List.length_drop, ← size_eq]; omega) h2
        simp only [Bool.false_eq_true, if_false]
        rw [hk, List.drop_drop]
        cases st with
        | none =>
          have ih := spansP_eq s f (pos + (Utf8.decode s pos).2) (some pos) acc (by omega) (by omega) (fun a h => by cases h; omega)
          have e : ([] : List UInt8) ++ (s.data.toList.drop pos).take (Utf8.decode s pos).2 = pieceU s.data.toList pos (pos + (Utf8.decode s pos).2) := by
            unfold pieceU
            rw [List.nil_append, Nat.add_sub_cancel_left]
          simp only [openPiece] at ih ⊢
          rw [e]
          exact ih
        | some a =>
          have ih := spansP_eq s f (pos + (Utf8.decode s pos).2) (some a) acc (by omega) (by omega) (fun b h => by cases h; have := hst a rfl; omega)
          simp only [openPiece] at ih ⊢
          rw [pieceU_grow _ _ _ _ (Nat.le_of_lt (hst a rfl))]
          exact ih
    · obtain rfl : pos = s.size := by omega
      have hd : s.data.toList.drop s.size = [] := List.drop_eq_nil_of_le (by rw [← size_eq]; exact Nat.le_refl _)
      rw [hd, wordsGo_nil, spansFromP_end sepN s _ _ _ _ hlt]
      cases st with
      | none => simp [closeSpans, openPiece]
      | some a =>
        have := pieceU_ne s.data.toList a s.size (hst a rfl) (by rw [← size_eq]; exact Nat.le_refl _)
        simp [closeSpans, openPiece, this]
/-- strings.FieldsFunc at blanks and tabs. -/
theorem fields_words (s : ByteArray) : (goFieldsP sepN s).map (·.data.toList) = wordsOf s.data.toList := by
  have h := spansP_eq s s.size 0 none [] (by omega) (Nat.zero_le _) (fun a h => by cases h)
  simp only [List.map_nil, List.nil_append, openPiece, List.drop_zero] at h
  unfold wordsOf goFieldsP spansOfP
  rw [h, List.map_map]
  congr 1
  funext p
  simp [pieceU, extract_data]
theorem fields_size (p : Nat → Bool) (s : ByteArray) : ∀ y ∈ goFieldsP p s, y.size ≤ s.size := by
  intro y hy
  unfold goFieldsP at hy
  obtain ⟨x, _, rfl⟩ := List.mem_map.1 hy
  rw [ByteArray.size_extract]
  omega
end Go.Proofs.YtinmehodkeofaaaDoor.Q
namespace Go.Proofs.YtinmehodkeofaaaDoor.Q
open Go.RowKit Go.Proofs.YtinmehodkeofaaaDoorW.PrintWords Go.Proofs.YtinmehodkeofaaaDoorW.PrintLast Go.Proofs.YtinmehodkeofaaaDoorW.PrintMore
set_option linter.unusedVariables false
set_option linter.unusedSimpArgs false

theorem sep_calls (x : Nat) (hx : x ≤ 1114111) (w : World) : Calls Tryd.prog 25 #[.int .i32 (x : Int)] w fun e w' => e = .returned (.bool (sepN x)) ∧ Below w.heap.size w w' := by
  obtain ⟨n, hn⟩ : ∃ n : Int, n = (x : Int) := ⟨_, rfl⟩
  rw [← hn]
  by_cases h1 : n = 32
  · have hs : sepN x = true := by unfold sepN; rw [show x = 32 by omega]; rfl
    rw [hs]
    subst h1
    clear hn
    go_enter Tryd.func25, Tryd.ntmps25
    go_wp2
    go_ret
    exact ⟨rfl, Below.refl _ _⟩
  · have hb1 : (n == 32) = false := beq_eq_false_iff_ne.2 h1
    by_cases h2 : n = 9
    · have hs : sepN x = true := by unfold sepN; rw [show x = 9 by omega]; rfl
      rw [hs]
      subst h2
      clear hn
      go_enter Tryd.func25, Tryd.ntmps25
      go_wp2
      go_ret
      exact ⟨rfl, Below.refl _ _⟩
    · have hb2 : (n == 9) = false := beq_eq_false_iff_ne.2 h2
      have hs : sepN x = false := by unfold sepN; rw [Bool.or_eq_false_iff, beq_eq_false_iff_ne, beq_eq_false_iff_ne]; omega
      rw [hs]
      clear hn
      go_enter Tryd.func25, Tryd.ntmps25
      go_wp2
      go_ret
      exact ⟨rfl, Below.refl _ _⟩
theorem fields_calls (s : ByteArray) (w : World) (hs : s.size ≤ 1000000) :
    Calls Tryd.prog 24 #[.string s, .func (.func 25) #[] #[]] w fun e w' => ∃ A, e = .returned (.slice (some ⟨A, 0, none⟩) (Lib.goFieldsP sepN s).length (Lib.goFieldsP sepN s).length) ∧ w.heap.size ≤ A ∧ A < w'.heap.size ∧
      Kd.F Kd.string w' (fun k => k = A) (some ⟨A, 0, none⟩) (Lib.goFieldsP sepN s).length (Lib.goFieldsP sepN s) ∧ Below w.heap.size w w' := by
  refine (Tryd.strings_FieldsFunc_grows 25 #[] (fun args w => enters_ Tryd.func25 (by kernel_rfl) rfl args w) sepN s w (by omega) (fun W x hx _ => sep_calls x hx W)).mono ?_
  rintro e w' ⟨A, rfl, hA, ho, hb⟩
  have hR : Kd.R Kd.string 9 w' w.heap.size (fun k => k = A) (.slice (some ⟨A, 0, none⟩) (Lib.goFieldsP sepN s).length (Lib.goFieldsP sepN s).length) (Lib.goFieldsP sepN s) := Kd.R_of_own ho (fun k hk => by simpa [Value.ownBlock] using hk.symm)
  exact ⟨A, rfl, hA, own_lt ho A rfl, Kd.R_F hR, hb⟩

/-- The lines' words. -/
def lw (a0 : ByteArray) : List (List (List UInt8)) := (linesOf a0.data.toList).map wordsOf
theorem cmds_nil {P : List (List (List UInt8))} {i : Nat} {cs : List S31} (h : cmdsOf P = (cmdsOf (P.drop i)).map (cs ++ ·)) (hi : i < P.length) (he : P.getD i [] = []) : cmdsOf P = (cmdsOf (P.drop (i + 1))).map (cs ++ ·) := by
  rw [h]
  have e : P.drop i = P.getD i [] :: P.drop (i + 1) := by
    rw [List.getD_eq_getElem?_getD, List.getElem?_eq_getElem hi, Option.getD_some]
    exact List.drop_eq_getElem_cons hi
  rw [e, he]
  rfl
theorem cmds_some {P : List (List (List UInt8))} {i : Nat} {cs : List S31} {c : S31} (h : cmdsOf P = (cmdsOf (P.drop i)).map (cs ++ ·)) (hi : i < P.length) (he : P.getD i [] ≠ []) (hc : cmdOf (P.getD i []) = some c) : cmdsOf P = (cmdsOf (P.drop (i + 1))).map ((cs ++ [c]) ++ ·) := by
  rw [h]
  have e : P.drop i = P.getD i [] :: P.drop (i + 1) := by
    rw [List.getD_eq_getElem?_getD, List.getElem?_eq_getElem hi, Option.getD_some]
    exact List.drop_eq_getElem_cons hi
  rw [e, cmdsOf, if_neg he, hc]
  cases cmdsOf (P.drop (i + 1)) <;> simp
theorem cmds_none {P : List (List (List UInt8))} {i : Nat} {cs : List S31} (h : cmdsOf P = (cmdsOf (P.drop i)).map (cs ++ ·)) (hi : i < P.length) (he : P.getD i [] ≠ []) (hc : cmdOf (P.getD i []) = none) : cmdsOf P = none := by
  rw [h]
  have e : P.drop i = P.getD i [] :: P.drop (i + 1) := by
    rw [List.getD_eq_getElem?_getD, List.getElem?_eq_getElem hi, Option.getD_some]
    exact List.drop_eq_getElem_cons hi
  rw [e, cmdsOf, if_neg he, hc]
  rfl
theorem cmds_end {P : List (List (List UInt8))} {cs : List S31} (h : cmdsOf P = (cmdsOf (P.drop P.length)).map (cs ++ ·)) : cmdsOf P = some cs := by
  rw [h, List.drop_eq_nil_of_le (Nat.le_refl _)]
  simp [cmdsOf]
theorem lw_at (a0 : ByteArray) (Ps : List ByteArray) (hP : Ps = Lib.splitB ⟨#[10]⟩ 0 (Lib.countB a0 ⟨#[10]⟩) a0) (i : Nat) (x : ByteArray) (hx : Ps[i]? = some x) : i < (lw a0).length ∧ (lw a0).getD i [] = pw (Lib.goFieldsP sepN x) := by
  have h1 : (lw a0)[i]? = some (pw (Lib.goFieldsP sepN x)) := by
    unfold lw
    rw [← pieces_lines, ← hP, List.map_map, List.getElem?_map, hx]
    show some (wordsOf x.data.toList) = some (pw _)
    rw [← fields_words]
    rfl
  exact ⟨(List.getElem?_eq_some_iff.1 h1).1, by rw [List.getD_eq_getElem?_getD, h1]; rfl⟩
theorem lw_length (a0 : ByteArray) : (lw a0).length = Lib.countB a0 ⟨#[10]⟩ + 1 := by
  unfold lw
  rw [List.length_map, ← pieces_lines, List.length_map, Lib.splitB_all _ (by decide) 0 _ _ rfl]

def ParsePost (a0 : ByteArray) (w : World) (e : Ending) (w' : World) : Prop :=
  ∃ v0_ : Value, e = .returned (.tuple #[v0_, .int .i64 (parse a0.data.toList).2]) ∧ Kd.S k31 31 w' w.heap.size (fun _ => True) v0_ (parse a0.data.toList).1 ∧ Below w.heap.size w w'

def PRel (a0 : ByteArray) (Ps : List ByteArray) (w : World) (N : Nat) (k : Nat) (v4 v13 : Value) (wr : World) : Prop :=
  ∃ (i : Nat) (cs : List S31), v13 = .int .i64 (i : Int) ∧ i + k = N ∧ cs.length ≤ i ∧ cmdsOf (lw a0) = (cmdsOf ((lw a0).drop i)).map (cs ++ ·) ∧ Kd.S k31 31 wr w.heap.size (fun k => k ≠ w.heap.size) v4 cs ∧
    wr.heap[w.heap.size]? = some (.cells (Ps.map Value.string).toArray 9 (0, 0)) ∧ Below w.heap.size w wr
theorem parse_bad {a0 : ByteArray} (h : cmdsOf (lw a0) = none) : parse a0.data.toList = ([], 3) := by
  unfold parse
  rw [show (linesOf a0.data.toList).map wordsOf = lw a0 from rfl, h]
theorem parse_long {a0 : ByteArray} {cs : List S31} (h : cmdsOf (lw a0) = some cs) (hl : 400 < cs.length) : parse a0.data.toList = ([], 2) := by
  unfold parse
  rw [show (linesOf a0.data.toList).map wordsOf = lw a0 from rfl, h]
  exact if_pos hl
theorem parse_ok {a0 : ByteArray} {cs : List S31} (h : cmdsOf (lw a0) = some cs) (hl : ¬ 400 < cs.length) : parse a0.data.toList = (cs, 0) := by
  unfold parse
  rw [show (linesOf a0.data.toList).map wordsOf = lw a0 from rfl, h]
  exact if_neg hl
/-- What is known when command has come back, and its struct has been laid. -/
theorem app_ready {w wr w3 w5 W : World} {b : Nat} {v4 v : Value} {cs : List S31} {args : List Int} {o : Obj} (hS : Kd.S k31 31 wr w.heap.size (fun k => k ≠ w.heap.size) v4 cs) (hB : Below w.heap.size w wr) (hg0 : w.heap.size < wr.heap.size)
    (hb3 : Below wr.heap.size wr w3) (hbb : wr.heap.size ≤ b) (hR : Kd.R (Kd.int .i64) 3 w5 w3.heap.size (fun _ => True) v args) (hg : w3.grownBy w5 (some b)) (hW : W = w5.alloc o) :
    Kd.R (Kd.int .i64) 3 W w.heap.size (fun k => w3.heap.size ≤ k ∧ k < w5.heap.size) v args ∧ Kd.S k31 31 W w.heap.size (fun k => k ≠ w.heap.size ∧ ¬ (w3.heap.size ≤ k ∧ k < w5.heap.size)) v4 cs ∧ Below w.heap.size w W ∧
    (∀ k, w3.heap.size ≤ k ∧ k < w5.heap.size → k ≠ w.heap.size ∧ some k ≠ v4.ownBlock) ∧ w.heap.size ≤ W.heap.size ∧ (∀ k, W.heap.size ≤ k → k ≠ w.heap.size) ∧ some w.heap.size ≠ v4.ownBlock := by
  subst hW
  have hs3 := hb3.size
  have hs5 := hg.size
  have hB3 := hB.trans (hb3.mono hB.size)
  have hB5 : Below w.heap.size w w5 := hB3.grown hg hB3.size (fun j hj => by cases hj; exact Nat.le_trans hB.size hbb)
  have hSb := Kd.S_bound hS
  have hown : ∀ k, v4.ownBlock = some k → k < wr.heap.size ∧ k ≠ w.heap.size := fun k hk => by
    have := (Kd.S_R hSb).1 k hk
    exact ⟨this.2.2.1, this.1⟩
  refine ⟨Kd.R_alloc (Kd.R_lower (Kd.R_mono (Kd.R_bound hR) (fun k hk => ⟨hk.2.1, hk.2.2.1⟩)) hB3.size) _, ?_, hB5.alloc hB5.size _, ?_, by rw [World.size_alloc]; have := hB5.size; omega, fun k hk => by rw [World.size_alloc] at hk; omega, fun e => (hown _ e.symm).2 rfl⟩
  · refine Kd.S_alloc ?_ o
    refine Kd.S_mono (Kd.S_grown (Kd.S_below hSb hb3) hg (fun k hk e => ?_)) (fun k hk => ⟨hk.1, fun h => ?_⟩)
    · injection e with e
      have := hk.2.2.1
      omega
    · have := hk.2.2.1
      omega
  · intro k hk
    exact ⟨by omega, fun e => by have := (hown k e.symm).1; omega⟩

set_option maxHeartbeats 2000000 in
set_option maxRecDepth 100000 in
theorem parse_walk (a0 : ByteArray) (w : World) (hT : Tabs w) (hl : a0.size ≤ 1000000) : Calls Tryd.prog 10 #[.string a0] w (ParsePost a0 w) := by
  obtain ⟨m, hm⟩ := hT.2.2.2.1
  have HT := Aside0.mk hT
  have HSP := Lib.hid (fun (W : World) (h : W.cell? ⟨1, 0, none⟩ = some (.int .i64 m)) => Tryd.strings_Split a0 ⟨#[10]⟩ m W (by omega) h (by decide))
  obtain ⟨Ps, hP⟩ : ∃ Ps, Ps = Lib.splitB ⟨#[10]⟩ 0 (Lib.countB a0 ⟨#[10]⟩) a0 := ⟨_, rfl⟩
  have hPl : Ps.length = Lib.countB a0 ⟨#[10]⟩ + 1 := by rw [hP]; exact Lib.splitB_all _ (by decide) 0 _ _ rfl
  have hPn : Lib.countB a0 ⟨#[10]⟩ ≤ a0.size := Lib.countB_le _ (by decide) _ a0 (Nat.le_refl _)
  have HPS := Aside0.mk (fun y (hy : y ∈ Ps) => (show y.size ≤ 1000000 from Nat.le_trans (pieces_size _ _ _ y (hP ▸ hy)) hl))
  have HLW := Aside0.mk (fun i x (hx : Ps[i]? = some x) => lw_at a0 Ps hP i x hx)
  have HLL := Aside0.mk (lw_length a0)
  rw [← hP] at HSP
  obtain ⟨N, hN⟩ : ∃ N, N = Lib.countB a0 ⟨#[10]⟩ + 1 := ⟨_, rfl⟩
  rw [← hN] at HSP hPl HLL
  have hN1 : N ≤ 1000001 := by omega
  have HPL := Aside0.mk hPl
  clear hP hPl hPn hN hT
  have hu31 := Tryd.underlying31
  go_enter Tryd.func10, Tryd.ntmps10
  go_wp2_with (first | (go_at_call 23; (with_reducible refine (HSP.out _ hm).mono ?_); rintro e w1 ⟨rfl, rfl⟩))
  go_loopg [4, 13] N (fun k v4 v13 wr => PRel a0 Ps w N k v4 v13 wr)
  case atStart => exact ⟨0, [], rfl, by omega, Nat.le_refl _, by simp, Kd.S_nil _ _ _ _ _, blk_new w _, (Below.refl _ _).alloc (Nat.le_refl _) _⟩
  case round =>
    clear HSP hm
    obtain ⟨i, cs, rfl, hik, hcl, hinv, hS, hbk, hB⟩ := hrel
    have HIK := Aside0.mk hik
    have HINV := Aside0.mk hinv
    have HS := Aside0.mk hS
    have HB := Aside0.mk hB
    have HCL := Aside0.mk hcl
    have hg0 := blk_lt hbk
    by_cases hi : i < N
    · have hiI : ((i : Int) < (N : Int)) = True := eq_true (by omega)
      obtain ⟨x, hx⟩ : ∃ x, Ps[i]? = some x := ⟨_, List.getElem?_eq_getElem (by rw [HPL.out]; exact hi)⟩
      have hcx : wr.cell? ⟨w.heap.size, i, none⟩ = some (.string x) := by rw [blk_cell hbk i]; simp [hx]
      have hxs := HPS.out x (List.mem_of_getElem? hx)
      obtain ⟨hil, hiw⟩ := HLW.out i x hx
      have HBK := Aside0.mk hbk
      have HFF := Lib.hid (fields_calls x wr hxs)
      have HFS := Aside0.mk (fun y (hy : y ∈ Lib.goFieldsP sepN x) => (show y.size ≤ 281474976710656 from Nat.le_trans (fields_size sepN x y hy) (by omega)))
      obtain ⟨ws, hws⟩ : ∃ ws, ws = Lib.goFieldsP sepN x := ⟨_, rfl⟩
      rw [← hws] at HFF HFS hiw
      have HIL := Aside0.mk hil
      have HIW := Aside0.mk hiw
      obtain ⟨n, hn⟩ : ∃ n, n = ws.length := ⟨_, rfl⟩
      rw [← hn] at HFF
      have HN := Aside0.mk hn
      clear hws hil hiw hbk hx hxs hS hB hinv hik hcl
      by_cases hwn : ws = []
      · have hn0 : n = 0 := by rw [hn, hwn]; rfl
        have HWN := Aside0.mk hwn
        clear hn hwn
        subst hn0
        go_wp2_with (first | (go_at_call 24; (with_reducible refine HFF.out.mono ?_); rintro e w2 ⟨A, rfl, hA, hAl, hF, hb2⟩; have HB2 := Aside0.mk hb2; clear hA hAl hF hb2))
        go_roundg (gk - 1)
        case measure => have := HIK.out; omega
        case rel => exact ⟨i + 1, cs, by go_num, by have := HIK.out; omega, by have := HCL.out; omega, cmds_nil HINV.out HIL.out (by rw [HIW.out, HWN.out]; rfl), Kd.S_alloc (Kd.S_below HS.out HB2.out) _, blk_alloc (blk_below HBK.out HB2.out) _, ((HB.out.trans (HB2.out.mono HB.out.size)).alloc (Nat.le_trans HB.out.size HB2.out.size) _)⟩
      · have hnz : ((n : Int) == 0) = false := by
          rw [beq_eq_false_iff_ne, hn]
          have : 0 < ws.length := List.length_pos_iff.2 hwn
          omega
        have hnz2 : ((n : Int) = 0) = False := eq_false (by rw [beq_eq_false_iff_ne] at hnz; exact hnz)
        have hne2 : (lw a0).getD i [] ≠ [] := by rw [HIW.out]; exact fun e => hwn (pw_nil.1 e)
        have HNE := Aside0.mk hne2
        have HWN := Aside0.mk hwn
        clear hn hwn hne2
        obtain ⟨r, hr⟩ : ∃ r, r = cmdOf (pw ws) := ⟨_, rfl⟩
        have HR := Aside0.mk hr
        have HIW2 := Aside0.mk (show cmdOf ((lw a0).getD i []) = r by rw [HIW.out, hr])
        clear hr
        have HCC := Lib.hid (fun (A : Nat) (w2 : World) (hA : wr.heap.size ≤ A) (hAl : A < w2.heap.size) (hF : Kd.F Kd.string w2 (fun k => k = A) (some ⟨A, 0, none⟩) n ws) (hb2 : Below wr.heap.size wr w2) =>
          command_calls w2.heap.size ws (fun k => k = A) (w2.alloc (.cells #[.slice (some ⟨A, 0, none⟩) n n] 51)) w HWN.out HT.out ((HB.out.trans (hb2.mono HB.out.size)).alloc (Nat.le_trans HB.out.size hb2.size) _) (Nat.le_trans HB.out.size hb2.size)
            ⟨some ⟨A, 0, none⟩, n, by rw [← HN.out]; exact blk_new _ _, by rw [HN.out]; exact Nat.le_refl _, by rw [← HN.out]; exact Kd.F_alloc hF _⟩ (fun k hk => by rw [World.size_alloc]; subst hk; omega) HFS.out)
        unfold CmdPost at HCC
        rw [← HR.out] at HCC
        cases r with
        | none =>
          have HPE := Aside0.mk (parse_bad (cmds_none HINV.out HIL.out HNE.out HIW2.out))
          go_wp2_with (first
            | (go_at_call 24; (with_reducible refine HFF.out.mono ?_); rintro e w2 ⟨A, rfl, hA, hAl, hF, hb2⟩; have HB2 := Aside0.mk hb2; have HCM := Lib.hid (HCC.out A w2 hA hAl hF hb2); clear hA hAl hF hb2)
            | (go_at_call 26; (with_reducible refine HCM.out.mono ?_); rintro e w5 ⟨c1, c3, c4, c5, v, args, rfl, hcf, hR, hg5⟩; obtain ⟨A6, c6, e6⟩ := Kd.R_slice hR; obtain ⟨n6, hn6⟩ : ∃ n6, n6 = args.length := ⟨_, rfl⟩; rw [← hn6] at e6; subst e6; have HG5 := Aside0.mk hg5; clear hcf hR hg5 hn6))
          go_ret2
          exact ⟨_, by rw [HPE.out]; rfl, by rw [HPE.out]; exact Kd.S_nil _ _ _ _ _, ((((HB.out.trans (HB2.out.mono HB.out.size)).alloc (Nat.le_trans HB.out.size HB2.out.size) _).grown HG5.out (by rw [World.size_alloc]; have := HB.out.size; have := HB2.out.size; omega) (fun j hj => by cases hj; exact Nat.le_trans HB.out.size HB2.out.size)).alloc (by have := HB.out.size; have := HB2.out.size; have := HG5.out.size; rw [World.size_alloc] at this; omega) _)⟩
        | some cm =>
          go_wp2_with (first
            | (go_at_call 24; (with_reducible refine HFF.out.mono ?_); rintro e w2 ⟨A, rfl, hA, hAl, hF, hb2⟩; have HB2 := Aside0.mk hb2; have HCM := Lib.hid (HCC.out A w2 hA hAl hF hb2); clear hA hAl hF hb2)
            | (go_at_call 26; (with_reducible refine HCM.out.mono ?_); rintro e w5 ⟨c1, c3, c4, c5, v, args, rfl, hcf, hR, hg5⟩; obtain ⟨A6, c6, e6⟩ := Kd.R_slice hR; obtain ⟨n6, hn6⟩ : ∃ n6, n6 = args.length := ⟨_, rfl⟩; rw [← hn6] at e6; subst e6; obtain ⟨W, hW⟩ : ∃ W, W = w5.alloc (.cells #[.int .i64 c1, .slice A6 n6 c6, .int .i64 c3, .int .i64 c4, .int .i64 c5] 31) := ⟨_, rfl⟩; have HAR := Aside0.mk (app_ready HS.out HB.out hg0 (below_alloc HB2.out _) HB2.out.size hR hg5 hW); have HCF := Aside0.mk (hcf cm rfl); have HG5 := Aside0.mk hg5; have HWW := Aside0.mk hW; clear hcf hR hg5 hn6 hW)
            | ((with_reducible refine gate_builtin (b := .append) (xs := #[.tmp 34, .tmp 36]) rfl ?_); rw [← HWW.out]; at_builtin; refine Kd.S_append k31 (w0 := w) w.heap.size rfl (.tmp 34) (.tmp 36) 23 31 (.agg #[(.int .i64 0), (.slice none 0 0), (.int .i64 0), (.int .i64 0), (.int .i64 0)]) 56 rfl Tryd.underlying23 info31 rfl (by decide) (by omega) u4 cs ⟨c1, args, c3, c4, c5⟩ [.int .i64 c1, .slice A6 n6 c6, .int .i64 c3, .int .i64 c4, .int .i64 c5] (fun k => k ≠ w.heap.size) _ rfl (by show Value.slice (some ⟨w5.heap.size + 1, 0, none⟩) 1 1 = _; rw [HWW.out, World.size_alloc]) (k31_mkM _ _ _ ⟨c1, args, c3, c4, c5⟩ HAR.out.1) HAR.out.2.2.2.1 HAR.out.2.2.2.2.2.1 HAR.out.2.1 HAR.out.2.2.1 HAR.out.2.2.2.2.1 (by have := HCL.out; omega) ?_; intro v6 w7 ho hb hg hat; have HO := Aside0.mk ho; have HB7 := Aside0.mk hb; have HG7 := Aside0.mk hg; clear ho hb hg hat))
          go_roundg (gk - 1)
          case measure => have := HIK.out; omega
          case rel => exact ⟨i + 1, cs ++ [⟨c1, args, c3, c4, c5⟩], by go_num, by have := HIK.out; omega, by have := HCL.out; simp; omega, cmds_some HINV.out HIL.out HNE.out (by rw [HIW2.out, HCF.out]), HO.out, blk_grown (by rw [HWW.out]; exact blk_alloc (blk_grown (blk_alloc (blk_below HBK.out HB2.out) _) HG5.out (by intro e; injection e with e; have := HB2.out.size; omega)) _) HG7.out HAR.out.2.2.2.2.2.2, HB7.out⟩
    · have hiN : i = N := by omega
      subst hiN
      have hend := cmds_end (P := lw a0) (cs := cs) (by rw [HLL.out]; exact hinv)
      have hiI : decide ((i : Int) < (i : Int)) = false := decide_eq_false (by omega)
      obtain ⟨A, c, rfl⟩ := Kd.S_slice hS
      obtain ⟨n, hn⟩ : ∃ n, n = cs.length := ⟨_, rfl⟩
      rw [← hn] at HS
      rw [← hn]
      by_cases h4 : 400 < n
      · have h4I : decide ((400 : Int) < (n : Int)) = true := decide_eq_true (by omega)
        have HPE := Aside0.mk (parse_long hend (by rw [← hn]; exact h4))
        clear hn hinv hS hbk hend hB
        go_wp2
        go_ret2
        exact ⟨_, by rw [HPE.out]; rfl, by rw [HPE.out]; exact Kd.S_nil _ _ _ _ _, HB.out⟩
      · have h4I : decide ((400 : Int) < (n : Int)) = false := decide_eq_false (by omega)
        have HPE := Aside0.mk (parse_ok hend (by rw [← hn]; exact h4))
        clear hn hinv hS hbk hend hB
        go_wp2
        go_ret2
        exact ⟨_, by rw [HPE.out]; rfl, by rw [HPE.out]; exact Kd.S_mono HS.out (fun _ _ => trivial), HB.out⟩

theorem script_Parse.calls (a0 : ByteArray) (r1 : List (S31)) (r2 : Int) (w : World) (hT_ : Tabs w) (h : script_Parse.f a0 = some (r1, r2)) :
    Calls Tryd.prog 10 #[.string a0] w fun e w' => ∃ v0_ : Value, e = .returned (.tuple #[v0_, .int .i64 r2]) ∧ Kd.S k31 31 w' w.heap.size (fun _ => True) v0_ r1 ∧ Below w.heap.size w w' := by
  unfold script_Parse.f at h
  by_cases hl : a0.size ≤ 1000000
  · rw [if_pos hl] at h
    have h1 : parse a0.data.toList = (r1, r2) := Option.some.inj h
    refine (parse_walk a0 w hT_ hl).mono fun e w' hh => ?_
    unfold ParsePost at hh
    rw [h1] at hh
    exact hh
  · rw [if_neg hl] at h
    cases h
end Go.Proofs.YtinmehodkeofaaaDoor.Q
