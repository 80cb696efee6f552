/- The contract of lex.number: a token that begins with a digit. -/
import Derived.Test.YtgbihkljbpionaaDoorELex1
import Derived.Test.YtgbihkljbpionaaDoorETabs
import Derived.Sort.Grow
namespace Go.Proofs.YtgbihkljbpionaaDoor.Q
open Go.RowKit Go.Proofs.YtgbihkljbpionaaDoorW.PrintWords
set_option linter.unusedVariables false
set_option linter.unusedSimpArgs false
theorem twLen {α : Type} (q : α → Bool) : ∀ (l : List α), (l.takeWhile q).length ≤ l.length
  | [] => by simp
  | a :: l => by
    simp only [List.takeWhile]
    split
    · simp only [List.length_cons]; have := twLen q l; omega
    · simp
theorem grow_below (w : World) (k : Nat) (os : Array Obj) : Below w.heap.size w (Go.Sort.grow (w.drewN k) os) :=
  ⟨rfl, rfl, rfl, by show w.heap.size ≤ (w.heap ++ os).size; rw [Array.size_append]; omega, fun j hj => by
    show (w.heap ++ os)[j]? = w.heap[j]?
    rw [Array.getElem?_append_left hj]⟩
theorem itoa_calls (n : Int) (h0 : -9223372036854775808 ≤ n) (h1 : n ≤ 9223372036854775807) (w : World) (hT : Tabs w) :
    Calls Tryd.prog 36 #[.int .i64 n] w fun e w' => e = .returned (.string ⟨(Lib.itoa n).toArray⟩) ∧ Below w.heap.size w w' :=
  (Tryd.strconv_Itoa n h0 h1 w hT.1).mono fun e w' ⟨he, k, os, hw⟩ => ⟨he, hw ▸ grow_below w k os⟩
theorem atoi_ok (s : ByteArray) (hs : s.size ≤ 281474976710656) (v : Int) (h : Lib.atoiAll s.data.toList = .ok v) (w : World) :
    Calls Tryd.prog 35 #[.string s] w fun e w' => e = .returned (.tuple #[.int .i64 v, .nilIface]) ∧ Below w.heap.size w w' :=
  (Any.strconv_Atoi_ok Tryd.laysC172 s (by omega) v h w).mono fun e w' ⟨he, hw⟩ => ⟨he, by
    rcases hw with rfl | ⟨t, rfl⟩
    · exact Below.refl _ _
    · exact Lib.bytesWorld_below _ _ _⟩
def AtoiErr (w : World) (e : Ending) (w' : World) : Prop := ∃ (n : Int) (N : Nat), e = .returned (.tuple #[.int .i64 n, .iface 78 (.pointer (some ⟨N, 0, none⟩))]) ∧ Below w.heap.size w w'
theorem atoi_err (s : ByteArray) (hs : s.size ≤ 281474976710656) (h : ∀ v, Lib.atoiAll s.data.toList ≠ .ok v) (w : World) (hT : Tabs w) :
    Calls Tryd.prog 35 #[.string s] w (AtoiErr w) := by
  cases hh : Lib.atoiAll s.data.toList with
  | ok v => exact absurd hh (h v)
  | range =>
    obtain ⟨_, _, ⟨tp, p, hv⟩⟩ := hT
    exact (Any.strconv_Atoi_range_var Tryd.laysC172 s hs hh tp p w hv).mono fun e w' ⟨N, he, _, _, hb⟩ => ⟨_, N, he, hb⟩
  | _ =>
    obtain ⟨_, ⟨tp, p, hv⟩, _⟩ := hT
    exact (Any.strconv_Atoi_syntax_var Tryd.laysC172 s hs hh tp p w hv).mono fun e w' ⟨N, he, _, _, hb⟩ => ⟨_, N, he, hb⟩

theorem w32_byte (c : UInt8) : wrap32 (c.toNat : Int) = (c.toNat : Int) := by
  have := c.toNat_lt
  unfold wrap32
  omega
theorem within_at (s : ByteArray) (k : Nat) (h : k < s.size) (b : Bool) (hf : follows s.data.toList k = b) (W : World) :
    Calls Tryd.prog 22 #[.int .i32 (wrap32 ((s[k]'h).toNat : Int))] W fun e w' => e = .returned (.bool b) ∧ Drawn0 W w' := by
  rw [w32_byte]
  refine (within_calls _ W).mono fun e w' ⟨he, hw⟩ => ⟨?_, hw⟩
  rw [he, ← hf]
  unfold follows
  rw [iter_at s k h]
  rfl

def NumErr (W : ByteArray) (w : World) (e : Ending) (w' : World) : Prop := ∃ n : Int, e = .returned (.tuple #[.agg #[.int .i64 2, .string W, .int .i64 n, .int .i64 0], .bool false]) ∧ Below w.heap.size w w'
set_option maxHeartbeats 400000 in
set_option maxRecDepth 100000 in
theorem num_err_l (s W : ByteArray) (k : Nat) (w : World) (hT : Tabs w) (hs : s.size ≤ 281474976710656) (hk : (s.data.toList.takeWhile isDigit).length = k) (hW : s.extract 0 k = W) (b : Bool) (hlt : k < s.size) (hf : follows s.data.toList k = b) (ha : ∀ v, Lib.atoiAll W.data.toList ≠ .ok v) :
    Calls Tryd.prog 24 #[.string s] w fun e w' => NumErr W w e w' := by
  have hkl : k ≤ s.size := by have := twLen isDigit s.data.toList; rw [hk] at this; simpa using this
  have HP := Lib.hid (fun W => prefix_digit s W (by omega))
  rw [hk] at HP
  have HS := Aside0.mk (show W.size ≤ 281474976710656 by rw [← hW]; simp; omega)
  have HA := Lib.hid (fun w (hT : Tabs w) => atoi_err W HS.out ha w hT)
  have HC := Lib.hid (fun w => within_at s k hlt b hf w)
  have HW := Aside0.mk hW
  have HT := Aside0.mk hT
  clear hk hW ha hT hf
  have hu30 := Tryd.underlying30
  go_enter Tryd.func24, Tryd.ntmps24
  go_wp2_with (first | (go_at_call 21; refine (HP.out _).mono ?_; rintro e w1 ⟨rfl, hb1⟩))
  rw [HW.out]
  have hb0 := ((Below.refl w.heap.size w).alloc (Nat.le_refl _) (.cells #[.int .i64 0, .string ⟨#[]⟩, .int .i64 0, .int .i64 0] 30)).trans (hb1.mono (by simp))
  refine (HA.out _ (tabs_step HT.out hb0)).mono ?_
  rintro e w2 ⟨n, N, rfl, hb2⟩
  have hbk := blk_below (blk_below (blk_new w _) hb1) hb2
  have hb := hb0.trans (hb2.mono hb0.size)
  clear hb1 hb2 hb0
  have BK := Aside0.mk hbk
  have hb4 := Aside0.mk hb
  have q0 := (blk_cell hbk 0).trans rfl
  have q1 := (blk_cell hbk 1).trans rfl
  have q2 := (blk_cell hbk 2).trans rfl
  have q3 := (blk_cell hbk 3).trans rfl
  have z0 := blk_frozen hbk 0
  have z1 := blk_frozen hbk 1
  have z2 := blk_frozen hbk 2
  have z3 := blk_frozen hbk 3
  clear hbk hb
  go_wp2_with (first | (go_at_call 22; refine (HC.out _).mono ?_; rintro e w3 ⟨rfl, ⟨nd, rfl⟩⟩))
  refine bodyPost_ret (results_ct rfl _ _ w.heap.size 30 _ (0, 0) _ rfl (blk_put (blk_put (blk_put (blk_put BK.out 0 _ rfl) 1 _ rfl) 2 _ rfl) 3 _ rfl) Tryd.underlying30 rfl (by kernel_rfl)) rfl ?_
  exact ⟨_, rfl, ((((pw_below_drewN hb4.out _).setCell (Nat.le_refl _) _).setCell (Nat.le_refl _) _).setCell (Nat.le_refl _) _).setCell (Nat.le_refl _) _⟩
set_option maxHeartbeats 400000 in
set_option maxRecDepth 100000 in
theorem num_long_l (s W : ByteArray) (k : Nat) (v : Int) (w : World) (hT : Tabs w) (hs : s.size ≤ 281474976710656) (hk : (s.data.toList.takeWhile isDigit).length = k) (hW : s.extract 0 k = W) (b : Bool) (hlt : k < s.size) (hf : follows s.data.toList k = b) (ha : Lib.atoiAll W.data.toList = .ok v) (h5 : 5 < k) :
    Calls Tryd.prog 24 #[.string s] w fun e w' => e = .returned (.tuple #[.agg #[.int .i64 2, .string W, .int .i64 v, .int .i64 0], .bool false]) ∧ Below w.heap.size w w' := by
  have hkl : k ≤ s.size := by have := twLen isDigit s.data.toList; rw [hk] at this; simpa using this
  have HP := Lib.hid (fun W => prefix_digit s W (by omega))
  rw [hk] at HP
  have HS := Aside0.mk (show W.size ≤ 281474976710656 by rw [← hW]; simp; omega)
  have HA := Lib.hid (fun w => atoi_ok W HS.out v ha w)
  have HC := Lib.hid (fun w => within_at s k hlt b hf w)
  have HW := Aside0.mk hW
  have HT := Aside0.mk hT
  clear hk hW ha hT hf
  have hu30 := Tryd.underlying30
  go_enter Tryd.func24, Tryd.ntmps24
  go_wp2_with (first | (go_at_call 21; refine (HP.out _).mono ?_; rintro e w1 ⟨rfl, hb1⟩))
  rw [HW.out]
  have hb0 := ((Below.refl w.heap.size w).alloc (Nat.le_refl _) (.cells #[.int .i64 0, .string ⟨#[]⟩, .int .i64 0, .int .i64 0] 30)).trans (hb1.mono (by simp))
  refine (HA.out _).mono ?_
  rintro e w2 ⟨rfl, hb2⟩
  have hbk := blk_below (blk_below (blk_new w _) hb1) hb2
  have hb := hb0.trans (hb2.mono hb0.size)
  clear hb1 hb2 hb0
  have BK := Aside0.mk hbk
  have hb4 := Aside0.mk hb
  have q0 := (blk_cell hbk 0).trans rfl
  have q1 := (blk_cell hbk 1).trans rfl
  have q2 := (blk_cell hbk 2).trans rfl
  have q3 := (blk_cell hbk 3).trans rfl
  have z0 := blk_frozen hbk 0
  have z1 := blk_frozen hbk 1
  have z2 := blk_frozen hbk 2
  have z3 := blk_frozen hbk 3
  clear hbk hb
  go_wp2_with (first | (go_at_call 22; refine (HC.out _).mono ?_; rintro e w3 ⟨rfl, ⟨nd, rfl⟩⟩))
  refine bodyPost_ret (results_ct rfl _ _ w.heap.size 30 _ (0, 0) _ rfl (blk_put (blk_put (blk_put (blk_put BK.out 0 _ rfl) 1 _ rfl) 2 _ rfl) 3 _ rfl) Tryd.underlying30 rfl (by kernel_rfl)) rfl ?_
  exact ⟨rfl, ((((pw_below_drewN hb4.out _).setCell (Nat.le_refl _) _).setCell (Nat.le_refl _) _).setCell (Nat.le_refl _) _).setCell (Nat.le_refl _) _⟩
set_option maxHeartbeats 400000 in
set_option maxRecDepth 100000 in
theorem num_big_l (s W : ByteArray) (k : Nat) (v : Int) (w : World) (hT : Tabs w) (hs : s.size ≤ 281474976710656) (hk : (s.data.toList.takeWhile isDigit).length = k) (hW : s.extract 0 k = W) (b : Bool) (hlt : k < s.size) (hf : follows s.data.toList k = b) (ha : Lib.atoiAll W.data.toList = .ok v) (h5 : k ≤ 5) (h1 : 65536 ≤ v) :
    Calls Tryd.prog 24 #[.string s] w fun e w' => e = .returned (.tuple #[.agg #[.int .i64 2, .string W, .int .i64 v, .int .i64 0], .bool false]) ∧ Below w.heap.size w w' := by
  have hkl : k ≤ s.size := by have := twLen isDigit s.data.toList; rw [hk] at this; simpa using this
  have HP := Lib.hid (fun W => prefix_digit s W (by omega))
  rw [hk] at HP
  have HS := Aside0.mk (show W.size ≤ 281474976710656 by rw [← hW]; simp; omega)
  have HA := Lib.hid (fun w => atoi_ok W HS.out v ha w)
  have HC := Lib.hid (fun w => within_at s k hlt b hf w)
  have HW := Aside0.mk hW
  have HT := Aside0.mk hT
  clear hk hW ha hT hf
  have hu30 := Tryd.underlying30
  go_enter Tryd.func24, Tryd.ntmps24
  go_wp2_with (first | (go_at_call 21; refine (HP.out _).mono ?_; rintro e w1 ⟨rfl, hb1⟩))
  rw [HW.out]
  have hb0 := ((Below.refl w.heap.size w).alloc (Nat.le_refl _) (.cells #[.int .i64 0, .string ⟨#[]⟩, .int .i64 0, .int .i64 0] 30)).trans (hb1.mono (by simp))
  refine (HA.out _).mono ?_
  rintro e w2 ⟨rfl, hb2⟩
  have hbk := blk_below (blk_below (blk_new w _) hb1) hb2
  have hb := hb0.trans (hb2.mono hb0.size)
  clear hb1 hb2 hb0
  have BK := Aside0.mk hbk
  have hb4 := Aside0.mk hb
  have q0 := (blk_cell hbk 0).trans rfl
  have q1 := (blk_cell hbk 1).trans rfl
  have q2 := (blk_cell hbk 2).trans rfl
  have q3 := (blk_cell hbk 3).trans rfl
  have z0 := blk_frozen hbk 0
  have z1 := blk_frozen hbk 1
  have z2 := blk_frozen hbk 2
  have z3 := blk_frozen hbk 3
  clear hbk hb
  go_wp2_with (first | (go_at_call 22; refine (HC.out _).mono ?_; rintro e w3 ⟨rfl, ⟨nd, rfl⟩⟩))
  refine bodyPost_ret (results_ct rfl _ _ w.heap.size 30 _ (0, 0) _ rfl (blk_put (blk_put (blk_put (blk_put BK.out 0 _ rfl) 1 _ rfl) 2 _ rfl) 3 _ rfl) Tryd.underlying30 rfl (by kernel_rfl)) rfl ?_
  exact ⟨rfl, ((((pw_below_drewN hb4.out _).setCell (Nat.le_refl _) _).setCell (Nat.le_refl _) _).setCell (Nat.le_refl _) _).setCell (Nat.le_refl _) _⟩
set_option maxHeartbeats 400000 in
set_option maxRecDepth 100000 in
theorem num_ne_l (s W : ByteArray) (k : Nat) (v : Int) (w : World) (hT : Tabs w) (hs : s.size ≤ 281474976710656) (hk : (s.data.toList.takeWhile isDigit).length = k) (hW : s.extract 0 k = W) (b : Bool) (hlt : k < s.size) (hf : follows s.data.toList k = b) (ha : Lib.atoiAll W.data.toList = .ok v) (h0 : 0 ≤ v) (h1 : v < 65536) (h5 : k ≤ 5) (hc : ¬ Lib.itoa v = W.toList) :
    Calls Tryd.prog 24 #[.string s] w fun e w' => e = .returned (.tuple #[.agg #[.int .i64 2, .string W, .int .i64 v, .int .i64 0], .bool false]) ∧ Below w.heap.size w w' := by
  have hkl : k ≤ s.size := by have := twLen isDigit s.data.toList; rw [hk] at this; simpa using this
  have HP := Lib.hid (fun W => prefix_digit s W (by omega))
  rw [hk] at HP
  have HS := Aside0.mk (show W.size ≤ 281474976710656 by rw [← hW]; simp; omega)
  have HA := Lib.hid (fun w => atoi_ok W HS.out v ha w)
  have HI := Lib.hid (fun w (hT : Tabs w) => itoa_calls v (by omega) (by omega) w hT)
  have hc' : (Lib.itoa v = W.toList) = False := eq_false hc
  have HC := Lib.hid (fun w => within_at s k hlt b hf w)
  have HW := Aside0.mk hW
  have HT := Aside0.mk hT
  clear hk hW ha hT hc hf
  have hu30 := Tryd.underlying30
  go_enter Tryd.func24, Tryd.ntmps24
  go_wp2_with (first | (go_at_call 21; refine (HP.out _).mono ?_; rintro e w1 ⟨rfl, hb1⟩))
  rw [HW.out]
  have hb0 := ((Below.refl w.heap.size w).alloc (Nat.le_refl _) (.cells #[.int .i64 0, .string ⟨#[]⟩, .int .i64 0, .int .i64 0] 30)).trans (hb1.mono (by simp))
  refine (HA.out _).mono ?_
  rintro e w2 ⟨rfl, hb2⟩
  have hbk := blk_below (blk_below (blk_new w _) hb1) hb2
  have hb := hb0.trans (hb2.mono hb0.size)
  have HT2 := Aside0.mk (tabs_step HT.out hb)
  clear hb1 hb2 hb0
  go_wp2_with (first | (go_at_call 22; refine (HC.out _).mono ?_; rintro e w3 ⟨rfl, ⟨nd, rfl⟩⟩))
  refine (HI.out _ (tabs_step HT2.out (pw_below_drewN (Below.refl _ _) _))).mono ?_
  rintro e w3 ⟨rfl, hb3⟩
  have hbk3 := blk_below (blk_drewN hbk nd) hb3
  have hb4 := Aside0.mk ((pw_below_drewN hb nd).trans (hb3.mono hb.size))
  clear hb3 hbk hb
  have BK := Aside0.mk hbk3
  have q0 := (blk_cell hbk3 0).trans rfl
  have q1 := (blk_cell hbk3 1).trans rfl
  have q2 := (blk_cell hbk3 2).trans rfl
  have q3 := (blk_cell hbk3 3).trans rfl
  have z0 := blk_frozen hbk3 0
  have z1 := blk_frozen hbk3 1
  have z2 := blk_frozen hbk3 2
  have z3 := blk_frozen hbk3 3
  clear hbk3
  go_wp2_with fail
  refine bodyPost_ret (results_ct rfl _ _ w.heap.size 30 _ (0, 0) _ rfl (blk_put (blk_put (blk_put (blk_put BK.out 0 _ rfl) 1 _ rfl) 2 _ rfl) 3 _ rfl) Tryd.underlying30 rfl (by kernel_rfl)) rfl ?_
  exact ⟨rfl, (((hb4.out.setCell (Nat.le_refl _) _).setCell (Nat.le_refl _) _).setCell (Nat.le_refl _) _).setCell (Nat.le_refl _) _⟩
set_option maxHeartbeats 400000 in
set_option maxRecDepth 100000 in
theorem num_eq_l (s W : ByteArray) (k : Nat) (v : Int) (w : World) (hT : Tabs w) (hs : s.size ≤ 281474976710656) (hk : (s.data.toList.takeWhile isDigit).length = k) (hW : s.extract 0 k = W) (b : Bool) (hlt : k < s.size) (hf : follows s.data.toList k = b) (ha : Lib.atoiAll W.data.toList = .ok v) (h0 : 0 ≤ v) (h1 : v < 65536) (h5 : k ≤ 5) (hc : Lib.itoa v = W.toList) :
    Calls Tryd.prog 24 #[.string s] w fun e w' => e = .returned (.tuple #[.agg #[.int .i64 2, .string W, .int .i64 v, .int .i64 0], .bool (!b)]) ∧ Below w.heap.size w w' := by
  have hkl : k ≤ s.size := by have := twLen isDigit s.data.toList; rw [hk] at this; simpa using this
  have HP := Lib.hid (fun W => prefix_digit s W (by omega))
  rw [hk] at HP
  have HS := Aside0.mk (show W.size ≤ 281474976710656 by rw [← hW]; simp; omega)
  have HA := Lib.hid (fun w => atoi_ok W HS.out v ha w)
  have HI := Lib.hid (fun w (hT : Tabs w) => itoa_calls v (by omega) (by omega) w hT)
  have hc' : (Lib.itoa v = W.toList) = True := eq_true hc
  have HE := Aside0.mk (show (Lib.itoa v == W.toList) = true by rw [beq_iff_eq]; exact hc)
  have HC := Lib.hid (fun w => within_at s k hlt b hf w)
  have HW := Aside0.mk hW
  have HT := Aside0.mk hT
  clear hk hW ha hT hc hf
  have hu30 := Tryd.underlying30
  go_enter Tryd.func24, Tryd.ntmps24
  go_wp2_with (first | (go_at_call 21; refine (HP.out _).mono ?_; rintro e w1 ⟨rfl, hb1⟩))
  rw [HW.out]
  have hb0 := ((Below.refl w.heap.size w).alloc (Nat.le_refl _) (.cells #[.int .i64 0, .string ⟨#[]⟩, .int .i64 0, .int .i64 0] 30)).trans (hb1.mono (by simp))
  refine (HA.out _).mono ?_
  rintro e w2 ⟨rfl, hb2⟩
  have hbk := blk_below (blk_below (blk_new w _) hb1) hb2
  have hb := hb0.trans (hb2.mono hb0.size)
  have HT2 := Aside0.mk (tabs_step HT.out hb)
  clear hb1 hb2 hb0
  go_wp2_with (first | (go_at_call 22; refine (HC.out _).mono ?_; rintro e w3 ⟨rfl, ⟨nd, rfl⟩⟩))
  refine (HI.out _ (tabs_step HT2.out (pw_below_drewN (Below.refl _ _) _))).mono ?_
  rintro e w3 ⟨rfl, hb3⟩
  have hbk3 := blk_below (blk_drewN hbk nd) hb3
  have hb4 := Aside0.mk ((pw_below_drewN hb nd).trans (hb3.mono hb.size))
  clear hb3 hbk hb
  have BK := Aside0.mk hbk3
  have q0 := (blk_cell hbk3 0).trans rfl
  have q1 := (blk_cell hbk3 1).trans rfl
  have q2 := (blk_cell hbk3 2).trans rfl
  have q3 := (blk_cell hbk3 3).trans rfl
  have z0 := blk_frozen hbk3 0
  have z1 := blk_frozen hbk3 1
  have z2 := blk_frozen hbk3 2
  have z3 := blk_frozen hbk3 3
  clear hbk3
  go_wp2_with fail
  refine bodyPost_ret (results_ct rfl _ _ w.heap.size 30 _ (0, 0) _ rfl (blk_put (blk_put (blk_put (blk_put BK.out 0 _ rfl) 1 _ rfl) 2 _ rfl) 3 _ rfl) Tryd.underlying30 rfl (by kernel_rfl)) rfl ?_
  refine ⟨?_, (((hb4.out.setCell (Nat.le_refl _) _).setCell (Nat.le_refl _) _).setCell (Nat.le_refl _) _).setCell (Nat.le_refl _) _⟩
  have e := HE.out
  show Ending.returned (.tuple #[_, .bool (Lib.itoa v == W.toList && !b)]) = _
  rw [e]
  rfl
set_option maxHeartbeats 400000 in
set_option maxRecDepth 100000 in
theorem num_err_e (s W : ByteArray) (k : Nat) (w : World) (hT : Tabs w) (hs : s.size ≤ 281474976710656) (hk : (s.data.toList.takeWhile isDigit).length = k) (hW : s.extract 0 k = W) (hks : k = s.size) (ha : ∀ v, Lib.atoiAll W.data.toList ≠ .ok v) :
    Calls Tryd.prog 24 #[.string s] w fun e w' => NumErr W w e w' := by
  have hkl : k ≤ s.size := by have := twLen isDigit s.data.toList; rw [hk] at this; simpa using this
  have HP := Lib.hid (fun W => prefix_digit s W (by omega))
  rw [hk] at HP
  have HS := Aside0.mk (show W.size ≤ 281474976710656 by rw [← hW]; simp; omega)
  have HA := Lib.hid (fun w (hT : Tabs w) => atoi_err W HS.out ha w hT)
  have hlt : ¬ k < s.size := by omega
  have HW := Aside0.mk hW
  have HT := Aside0.mk hT
  clear hk hW ha hT hks
  have hu30 := Tryd.underlying30
  go_enter Tryd.func24, Tryd.ntmps24
  go_wp2_with (first | (go_at_call 21; refine (HP.out _).mono ?_; rintro e w1 ⟨rfl, hb1⟩))
  rw [HW.out]
  have hb0 := ((Below.refl w.heap.size w).alloc (Nat.le_refl _) (.cells #[.int .i64 0, .string ⟨#[]⟩, .int .i64 0, .int .i64 0] 30)).trans (hb1.mono (by simp))
  refine (HA.out _ (tabs_step HT.out hb0)).mono ?_
  rintro e w2 ⟨n, N, rfl, hb2⟩
  have hbk := blk_below (blk_below (blk_new w _) hb1) hb2
  have hb := hb0.trans (hb2.mono hb0.size)
  clear hb1 hb2 hb0
  have BK := Aside0.mk hbk
  have hb4 := Aside0.mk hb
  have q0 := (blk_cell hbk 0).trans rfl
  have q1 := (blk_cell hbk 1).trans rfl
  have q2 := (blk_cell hbk 2).trans rfl
  have q3 := (blk_cell hbk 3).trans rfl
  have z0 := blk_frozen hbk 0
  have z1 := blk_frozen hbk 1
  have z2 := blk_frozen hbk 2
  have z3 := blk_frozen hbk 3
  clear hbk hb
  go_wp2_with fail
  refine bodyPost_ret (results_ct rfl _ _ w.heap.size 30 _ (0, 0) _ rfl (blk_put (blk_put (blk_put (blk_put BK.out 0 _ rfl) 1 _ rfl) 2 _ rfl) 3 _ rfl) Tryd.underlying30 rfl (by kernel_rfl)) rfl ?_
  exact ⟨_, rfl, (((hb4.out.setCell (Nat.le_refl _) _).setCell (Nat.le_refl _) _).setCell (Nat.le_refl _) _).setCell (Nat.le_refl _) _⟩
set_option maxHeartbeats 400000 in
set_option maxRecDepth 100000 in
theorem num_long_e (s W : ByteArray) (k : Nat) (v : Int) (w : World) (hT : Tabs w) (hs : s.size ≤ 281474976710656) (hk : (s.data.toList.takeWhile isDigit).length = k) (hW : s.extract 0 k = W) (hks : k = s.size) (ha : Lib.atoiAll W.data.toList = .ok v) (h5 : 5 < k) :
    Calls Tryd.prog 24 #[.string s] w fun e w' => e = .returned (.tuple #[.agg #[.int .i64 2, .string W, .int .i64 v, .int .i64 0], .bool false]) ∧ Below w.heap.size w w' := by
  have hkl : k ≤ s.size := by have := twLen isDigit s.data.toList; rw [hk] at this; simpa using this
  have HP := Lib.hid (fun W => prefix_digit s W (by omega))
  rw [hk] at HP
  have HS := Aside0.mk (show W.size ≤ 281474976710656 by rw [← hW]; simp; omega)
  have HA := Lib.hid (fun w => atoi_ok W HS.out v ha w)
  have hlt : ¬ k < s.size := by omega
  have HW := Aside0.mk hW
  have HT := Aside0.mk hT
  clear hk hW ha hT hks
  have hu30 := Tryd.underlying30
  go_enter Tryd.func24, Tryd.ntmps24
  go_wp2_with (first | (go_at_call 21; refine (HP.out _).mono ?_; rintro e w1 ⟨rfl, hb1⟩))
  rw [HW.out]
  have hb0 := ((Below.refl w.heap.size w).alloc (Nat.le_refl _) (.cells #[.int .i64 0, .string ⟨#[]⟩, .int .i64 0, .int .i64 0] 30)).trans (hb1.mono (by simp))
  refine (HA.out _).mono ?_
  rintro e w2 ⟨rfl, hb2⟩
  have hbk := blk_below (blk_below (blk_new w _) hb1) hb2
  have hb := hb0.trans (hb2.mono hb0.size)
  clear hb1 hb2 hb0
  have BK := Aside0.mk hbk
  have hb4 := Aside0.mk hb
  have q0 := (blk_cell hbk 0).trans rfl
  have q1 := (blk_cell hbk 1).trans rfl
  have q2 := (blk_cell hbk 2).trans rfl
  have q3 := (blk_cell hbk 3).trans rfl
  have z0 := blk_frozen hbk 0
  have z1 := blk_frozen hbk 1
  have z2 := blk_frozen hbk 2
  have z3 := blk_frozen hbk 3
  clear hbk hb
  go_wp2_with fail
  refine bodyPost_ret (results_ct rfl _ _ w.heap.size 30 _ (0, 0) _ rfl (blk_put (blk_put (blk_put (blk_put BK.out 0 _ rfl) 1 _ rfl) 2 _ rfl) 3 _ rfl) Tryd.underlying30 rfl (by kernel_rfl)) rfl ?_
  exact ⟨rfl, (((hb4.out.setCell (Nat.le_refl _) _).setCell (Nat.le_refl _) _).setCell (Nat.le_refl _) _).setCell (Nat.le_refl _) _⟩
set_option maxHeartbeats 400000 in
set_option maxRecDepth 100000 in
theorem num_big_e (s W : ByteArray) (k : Nat) (v : Int) (w : World) (hT : Tabs w) (hs : s.size ≤ 281474976710656) (hk : (s.data.toList.takeWhile isDigit).length = k) (hW : s.extract 0 k = W) (hks : k = s.size) (ha : Lib.atoiAll W.data.toList = .ok v) (h5 : k ≤ 5) (h1 : 65536 ≤ v) :
    Calls Tryd.prog 24 #[.string s] w fun e w' => e = .returned (.tuple #[.agg #[.int .i64 2, .string W, .int .i64 v, .int .i64 0], .bool false]) ∧ Below w.heap.size w w' := by
  have hkl : k ≤ s.size := by have := twLen isDigit s.data.toList; rw [hk] at this; simpa using this
  have HP := Lib.hid (fun W => prefix_digit s W (by omega))
  rw [hk] at HP
  have HS := Aside0.mk (show W.size ≤ 281474976710656 by rw [← hW]; simp; omega)
  have HA := Lib.hid (fun w => atoi_ok W HS.out v ha w)
  have hlt : ¬ k < s.size := by omega
  have HW := Aside0.mk hW
  have HT := Aside0.mk hT
  clear hk hW ha hT hks
  have hu30 := Tryd.underlying30
  go_enter Tryd.func24, Tryd.ntmps24
  go_wp2_with (first | (go_at_call 21; refine (HP.out _).mono ?_; rintro e w1 ⟨rfl, hb1⟩))
  rw [HW.out]
  have hb0 := ((Below.refl w.heap.size w).alloc (Nat.le_refl _) (.cells #[.int .i64 0, .string ⟨#[]⟩, .int .i64 0, .int .i64 0] 30)).trans (hb1.mono (by simp))
  refine (HA.out _).mono ?_
  rintro e w2 ⟨rfl, hb2⟩
  have hbk := blk_below (blk_below (blk_new w _) hb1) hb2
  have hb := hb0.trans (hb2.mono hb0.size)
  clear hb1 hb2 hb0
  have BK := Aside0.mk hbk
  have hb4 := Aside0.mk hb
  have q0 := (blk_cell hbk 0).trans rfl
  have q1 := (blk_cell hbk 1).trans rfl
  have q2 := (blk_cell hbk 2).trans rfl
  have q3 := (blk_cell hbk 3).trans rfl
  have z0 := blk_frozen hbk 0
  have z1 := blk_frozen hbk 1
  have z2 := blk_frozen hbk 2
  have z3 := blk_frozen hbk 3
  clear hbk hb
  go_wp2_with fail
  refine bodyPost_ret (results_ct rfl _ _ w.heap.size 30 _ (0, 0) _ rfl (blk_put (blk_put (blk_put (blk_put BK.out 0 _ rfl) 1 _ rfl) 2 _ rfl) 3 _ rfl) Tryd.underlying30 rfl (by kernel_rfl)) rfl ?_
  exact ⟨rfl, (((hb4.out.setCell (Nat.le_refl _) _).setCell (Nat.le_refl _) _).setCell (Nat.le_refl _) _).setCell (Nat.le_refl _) _⟩
set_option maxHeartbeats 400000 in
set_option maxRecDepth 100000 in
theorem num_ne_e (s W : ByteArray) (k : Nat) (v : Int) (w : World) (hT : Tabs w) (hs : s.size ≤ 281474976710656) (hk : (s.data.toList.takeWhile isDigit).length = k) (hW : s.extract 0 k = W) (hks : k = s.size) (ha : Lib.atoiAll W.data.toList = .ok v) (h0 : 0 ≤ v) (h1 : v < 65536) (h5 : k ≤ 5) (hc : ¬ Lib.itoa v = W.toList) :
    Calls Tryd.prog 24 #[.string s] w fun e w' => e = .returned (.tuple #[.agg #[.int .i64 2, .string W, .int .i64 v, .int .i64 0], .bool false]) ∧ Below w.heap.size w w' := by
  have hkl : k ≤ s.size := by have := twLen isDigit s.data.toList; rw [hk] at this; simpa using this
  have HP := Lib.hid (fun W => prefix_digit s W (by omega))
  rw [hk] at HP
  have HS := Aside0.mk (show W.size ≤ 281474976710656 by rw [← hW]; simp; omega)
  have HA := Lib.hid (fun w => atoi_ok W HS.out v ha w)
  have HI := Lib.hid (fun w (hT : Tabs w) => itoa_calls v (by omega) (by omega) w hT)
  have hc' : (Lib.itoa v = W.toList) = False := eq_false hc
  have hlt : ¬ k < s.size := by omega
  have HW := Aside0.mk hW
  have HT := Aside0.mk hT
  clear hk hW ha hT hc hks
  have hu30 := Tryd.underlying30
  go_enter Tryd.func24, Tryd.ntmps24
  go_wp2_with (first | (go_at_call 21; refine (HP.out _).mono ?_; rintro e w1 ⟨rfl, hb1⟩))
  rw [HW.out]
  have hb0 := ((Below.refl w.heap.size w).alloc (Nat.le_refl _) (.cells #[.int .i64 0, .string ⟨#[]⟩, .int .i64 0, .int .i64 0] 30)).trans (hb1.mono (by simp))
  refine (HA.out _).mono ?_
  rintro e w2 ⟨rfl, hb2⟩
  have hbk := blk_below (blk_below (blk_new w _) hb1) hb2
  have hb := hb0.trans (hb2.mono hb0.size)
  have HT2 := Aside0.mk (tabs_step HT.out hb)
  clear hb1 hb2 hb0
  go_wp2_with fail
  refine (HI.out _ HT2.out).mono ?_
  rintro e w3 ⟨rfl, hb3⟩
  have hbk3 := blk_below hbk hb3
  have hb4 := Aside0.mk (hb.trans (hb3.mono hb.size))
  clear hb3 hbk hb
  have BK := Aside0.mk hbk3
  have q0 := (blk_cell hbk3 0).trans rfl
  have q1 := (blk_cell hbk3 1).trans rfl
  have q2 := (blk_cell hbk3 2).trans rfl
  have q3 := (blk_cell hbk3 3).trans rfl
  have z0 := blk_frozen hbk3 0
  have z1 := blk_frozen hbk3 1
  have z2 := blk_frozen hbk3 2
  have z3 := blk_frozen hbk3 3
  clear hbk3
  go_wp2_with fail
  refine bodyPost_ret (results_ct rfl _ _ w.heap.size 30 _ (0, 0) _ rfl (blk_put (blk_put (blk_put (blk_put BK.out 0 _ rfl) 1 _ rfl) 2 _ rfl) 3 _ rfl) Tryd.underlying30 rfl (by kernel_rfl)) rfl ?_
  exact ⟨rfl, (((hb4.out.setCell (Nat.le_refl _) _).setCell (Nat.le_refl _) _).setCell (Nat.le_refl _) _).setCell (Nat.le_refl _) _⟩
set_option maxHeartbeats 400000 in
set_option maxRecDepth 100000 in
theorem num_eq_e (s W : ByteArray) (k : Nat) (v : Int) (w : World) (hT : Tabs w) (hs : s.size ≤ 281474976710656) (hk : (s.data.toList.takeWhile isDigit).length = k) (hW : s.extract 0 k = W) (hks : k = s.size) (ha : Lib.atoiAll W.data.toList = .ok v) (h0 : 0 ≤ v) (h1 : v < 65536) (h5 : k ≤ 5) (hc : Lib.itoa v = W.toList) :
    Calls Tryd.prog 24 #[.string s] w fun e w' => e = .returned (.tuple #[.agg #[.int .i64 2, .string W, .int .i64 v, .int .i64 0], .bool true]) ∧ Below w.heap.size w w' := by
  have hkl : k ≤ s.size := by have := twLen isDigit s.data.toList; rw [hk] at this; simpa using this
  have HP := Lib.hid (fun W => prefix_digit s W (by omega))
  rw [hk] at HP
  have HS := Aside0.mk (show W.size ≤ 281474976710656 by rw [← hW]; simp; omega)
  have HA := Lib.hid (fun w => atoi_ok W HS.out v ha w)
  have HI := Lib.hid (fun w (hT : Tabs w) => itoa_calls v (by omega) (by omega) w hT)
  have hc' : (Lib.itoa v = W.toList) = True := eq_true hc
  have HE := Aside0.mk (show (Lib.itoa v == W.toList) = true by rw [beq_iff_eq]; exact hc)
  have hlt : ¬ k < s.size := by omega
  have HW := Aside0.mk hW
  have HT := Aside0.mk hT
  clear hk hW ha hT hc hks
  have hu30 := Tryd.underlying30
  go_enter Tryd.func24, Tryd.ntmps24
  go_wp2_with (first | (go_at_call 21; refine (HP.out _).mono ?_; rintro e w1 ⟨rfl, hb1⟩))
  rw [HW.out]
  have hb0 := ((Below.refl w.heap.size w).alloc (Nat.le_refl _) (.cells #[.int .i64 0, .string ⟨#[]⟩, .int .i64 0, .int .i64 0] 30)).trans (hb1.mono (by simp))
  refine (HA.out _).mono ?_
  rintro e w2 ⟨rfl, hb2⟩
  have hbk := blk_below (blk_below (blk_new w _) hb1) hb2
  have hb := hb0.trans (hb2.mono hb0.size)
  have HT2 := Aside0.mk (tabs_step HT.out hb)
  clear hb1 hb2 hb0
  go_wp2_with fail
  refine (HI.out _ HT2.out).mono ?_
  rintro e w3 ⟨rfl, hb3⟩
  have hbk3 := blk_below hbk hb3
  have hb4 := Aside0.mk (hb.trans (hb3.mono hb.size))
  clear hb3 hbk hb
  have BK := Aside0.mk hbk3
  have q0 := (blk_cell hbk3 0).trans rfl
  have q1 := (blk_cell hbk3 1).trans rfl
  have q2 := (blk_cell hbk3 2).trans rfl
  have q3 := (blk_cell hbk3 3).trans rfl
  have z0 := blk_frozen hbk3 0
  have z1 := blk_frozen hbk3 1
  have z2 := blk_frozen hbk3 2
  have z3 := blk_frozen hbk3 3
  clear hbk3
  go_wp2_with fail
  refine bodyPost_ret (results_ct rfl _ _ w.heap.size 30 _ (0, 0) _ rfl (blk_put (blk_put (blk_put (blk_put BK.out 0 _ rfl) 1 _ rfl) 2 _ rfl) 3 _ rfl) Tryd.underlying30 rfl (by kernel_rfl)) rfl ?_
  refine ⟨?_, (((hb4.out.setCell (Nat.le_refl _) _).setCell (Nat.le_refl _) _).setCell (Nat.le_refl _) _).setCell (Nat.le_refl _) _⟩
  have e := HE.out
  show Ending.returned (.tuple #[_, .bool (Lib.itoa v == W.toList)]) = _
  rw [e]
  rfl
end Go.Proofs.YtgbihkljbpionaaDoor.Q
