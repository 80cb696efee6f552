/- The contract of the closure of script.Text: it appends a numeral to the words. Plain laws of script.Text: what a valid command is, how long its line is; what a round keeps. The contract of script.Text, at scripts of at most a thousand valid commands. -/
import Derived.Test.YtinmehodkeofaaaDoorELine
import Derived.Test.YtinmehodkeofaaaDoorEArity
namespace Go.Proofs.YtinmehodkeofaaaDoor.Q
open Go.RowKit Go.Proofs.YtinmehodkeofaaaDoorW.PrintWords Go.Proofs.YtinmehodkeofaaaDoorW.PrintLast Go.Proofs.YtinmehodkeofaaaDoorW.PrintMore
set_option linter.unusedVariables false
set_option linter.unusedSimpArgs false

def CloPost (M g : Nat) (words : List ByteArray) (w : World) (e : Ending) (w' : World) : Prop :=
  (∃ u, e = .returned u) ∧ ∃ v', w'.heap[g]? = some (.cells #[v'] 45 (0, 0)) ∧ Kd.R Kd.string 9 w' M (fun k => k ≠ g) v' words ∧ Below M w w'
set_option maxHeartbeats 800000 in
set_option maxRecDepth 100000 in
theorem clo_calls (n : Int) (h0 : -9223372036854775808 ≤ n) (h1 : n ≤ 9223372036854775807) (M g : Nat) (v : Value) (words : List ByteArray) (w : World) (hT : Tabs w) (hM : M ≤ w.heap.size) (hg : M ≤ g) (hbk0 : w.heap[g]? = some (.cells #[v] 45 (0, 0))) (hR0 : Kd.R Kd.string 9 w M (fun k => k ≠ g) v words) (hl : words.length ≤ 100000) :
    Calls Tryd.prog 31 #[.int .i64 n, .pointer (some ⟨g, 0, none⟩)] w (CloPost M g (words ++ [⟨(Lib.itoa n).toArray⟩]) w) := by
  obtain ⟨A0, c0, e0⟩ := Kd.R_slice hR0
  obtain ⟨n0, hn0⟩ : ∃ n0, n0 = words.length := ⟨_, rfl⟩
  rw [← hn0] at e0
  subst e0
  have hbk := hbk0
  have HR := Aside0.mk hR0
  have HT := Aside0.mk hT
  have HM := Aside0.mk hM
  have HG := Aside0.mk hg
  have HL := Aside0.mk (show (words.length + 1) * 16 ≤ 140737488355328 by omega)
  have HI := Lib.hid (fun W (h : Tabs W) => itoa_calls n h0 h1 W h)
  obtain ⟨S, hS⟩ : ∃ S : ByteArray, S = ⟨(Lib.itoa n).toArray⟩ := ⟨_, rfl⟩
  rw [← hS] at HI ⊢
  clear hS hn0 hbk0 hR0 hT hM hg hl h0 h1
  go_enter Tryd.func31, Tryd.ntmps31
  refine start_ (n := 6) (S := fun w' => w'.heap[g]? = some (.cells #[.slice A0 n0 c0] 45 (0, 0))) (ds := [5]) #[false, false, false, false, false, false] (by kernel_rfl) rfl rfl hbk (fun hHeld => ?_)
  have HB0 := Aside0.mk (below_drew (Below.refl w.heap.size w))
  have HR0 := Aside0.mk (Kd.R_drew HR.out)
  clear hbk
  generalize w.drew = W0 at HB0 HR0 hHeld ⊢
  refine pure_ (i := 1) (N := some 4) (v := ?_) (a' := ?_) #[false, true, false, false, false, false] rfl rfl (by kernel_rfl) (fun _ _ _ h => h) (Or.inl ⟨by rfl, ?_⟩) ?_ ?_
  rotate_left
  · intro w'
    go_simp
    with_reducible rfl
  rotate_left
  · simp only [Act.put, List.setIfInBounds_toArray, List.set_cons_zero, List.set_cons_succ, i64_w, i32_w]
    rfl
  refine take_ (i := 0) (N := some 3) (v := ?_) (a' := ?_) #[true, true, false, false, false, false] rfl rfl (by kernel_rfl) (fun _ _ _ h => h) (Or.inl ⟨by rfl, ?_⟩) hHeld ?_ ?_
  rotate_left
  · intro w' h1
    have s0 : w'.cell? ⟨g, 0, none⟩ = some (.slice A0 n0 c0) := (blk_cell h1 0).trans rfl
    clear h1
    go_simp
    with_reducible rfl
  rotate_left
  · simp only [Act.put, List.setIfInBounds_toArray, List.set_cons_zero, List.set_cons_succ, i64_w, i32_w]
    rfl
  refine one_ (i := 2) (N := some 5) #[true, true, true, false, false, false] rfl rfl (by kernel_rfl) (by decide) (fun K hK => ?_)
  refine goes_ Tryd.func32 (by kernel_rfl) rfl #[.int .i64 n] (by rfl) rfl rfl (by simp only [List.map_toArray, List.map_cons, List.map_nil]; rfl) ?_
  refine (HI.out _ (tabs_step HT.out HB0.out)).mono ?_
  rintro e w1 ⟨rfl, hb1⟩
  refine ⟨_, rfl, hK.out _ _ (blk_below hHeld hb1) (fun hHeld1 => ?_)⟩
  have HB1 := Aside0.mk (HB0.out.trans (hb1.mono HB0.out.size))
  have HR1 := Aside0.mk (Kd.R_below HR0.out hb1)
  clear hK K hb1
  refine one_ (i := 3) (N := some 6) #[true, true, true, true, false, false] rfl rfl (by kernel_rfl) (by decide) (fun K hK => ?_)
  refine value_ (v := .slice (some ⟨w1.heap.size, 0, none⟩) 1 1) (w1 := w1.alloc (.cells #[.string S] 9)) (by rfl) rfl (by go_simp) ?_
  refine hK.out _ _ (blk_alloc hHeld1 _) (fun _ => ?_)
  clear hK K
  have hgl := blk_lt hHeld1
  refine one_ (i := 4) (N := some 7) #[true, true, true, true, true, false] rfl rfl (by kernel_rfl) (by decide) (fun K hK => ?_)
  refine Kd.R_append_step Kd.string (w0 := w1) M (by rfl) (.tmp 3) (.tmp 6) 45 9 (.string ⟨#[]⟩) 16 rfl Tryd.underlying45 info9 rfl (by decide) (by omega) (.slice A0 n0 c0) words S [.string S] (fun k => k ≠ g) (fun _ => False) rfl rfl rfl (fun _ hk => hk.elim) (fun k hk => by omega) HR1.out (Below.refl _ _) (Nat.le_trans HM.out HB1.out.size) HL.out ?_
  intro v7 w7 ho hb hg hat
  obtain ⟨A7, c7, e7⟩ := Kd.R_slice ho
  obtain ⟨n7, hn7⟩ : ∃ n7, n7 = (words ++ [S]).length := ⟨_, rfl⟩
  rw [← hn7] at e7
  subst e7
  have hne : some g ≠ (Value.slice A0 n0 c0).ownBlock := fun e => (HR1.out.1 g e.symm) rfl
  have hbk7 := blk_grown hHeld1 hg hne
  refine hK.out _ _ hbk7 (fun _ => ?_)
  clear hK K
  have HO := Aside0.mk ho
  have HBM := Aside0.mk ((HB1.out.mono HM.out).trans hb)
  have HBK7 := Aside0.mk hbk7
  have q0 : w7.cell? ⟨g, 0, none⟩ = some (.slice A0 n0 c0) := (blk_cell hbk7 0).trans rfl
  have y0 := blk_frozen hbk7 0
  clear ho hb hg hat hn7 hbk7 hne hgl hHeld hHeld1
  refine last_ (i := 5) (N := none) #[true, true, true, true, true, true] rfl rfl (by kernel_rfl) (by decide) (fun K hK => ?_)
  refine skip_ (w1 := ?_) (by rfl) rfl ?_ ?_
  rotate_left
  · go_simp
    rfl
  refine hK.out _ _ ?_
  clear hK K
  refine done_ (by kernel_rfl) ?_
  go_end0
  exact ⟨⟨_, rfl⟩, _, blk_put HBK7.out 0 _ rfl, Kd.R_far HO.out (p := ⟨g, 0, none⟩) (fun k hk => hk) _, HBM.out.setCell HG.out _⟩
end Go.Proofs.YtinmehodkeofaaaDoor.Q
namespace Go.Proofs.YtinmehodkeofaaaDoor.Q
open Go.RowKit Go.Proofs.YtinmehodkeofaaaDoorW.PrintWords Go.Proofs.YtinmehodkeofaaaDoorW.PrintLast Go.Proofs.YtinmehodkeofaaaDoorW.PrintMore
set_option linter.unusedVariables false
set_option linter.unusedSimpArgs false

theorem arity_range (i : Nat) (h : i ≤ 20) : 0 ≤ arityAt i ∧ arityAt i ≤ 3 := by
  have h2 : ∀ j : Fin 21, 0 ≤ arityAt j.val ∧ arityAt j.val ≤ 3 := by decide
  exact h2 ⟨i, by omega⟩
theorem valid_facts {c : S31} (h : validC c = true) : (∃ o : Nat, c.f0 = (o : Int) ∧ 1 ≤ o ∧ o ≤ 20 ∧ arity c.f0 = arityAt o ∧ c.f1.length = (arityAt o).toNat ∧ c.f1.length ≤ 3) ∧ (∀ n ∈ c.f1, 0 ≤ n ∧ n ≤ 65535) ∧ (-1 ≤ c.f2 ∧ c.f2 ≤ 65535) ∧ (0 ≤ c.f3 ∧ c.f3 ≤ 256) ∧ (0 ≤ c.f4 ∧ c.f4 ≤ 65535) ∧ (c.f2 = -1 → c.f3 = 0) := by
  unfold validC at h
  simp only [Bool.and_eq_true, Bool.or_eq_true, decide_eq_true_eq, beq_iff_eq, List.all_eq_true] at h
  obtain ⟨⟨⟨⟨⟨⟨⟨⟨⟨h1, h2⟩, h3⟩, h4⟩, h5⟩, h6⟩, h7⟩, h8⟩, h9⟩, h10⟩ := h
  refine ⟨?_, fun n hn => h3 n hn, ⟨h4, h5⟩, ⟨h8, h9⟩, ⟨h6, h7⟩, fun e => ?_⟩
  · have ha : ¬ (c.f0 ≤ 0 ∨ 21 ≤ c.f0) := by
      intro hh
      unfold arity at h1
      rw [if_pos hh] at h1
      omega
    obtain ⟨o, ho⟩ : ∃ o : Nat, c.f0 = (o : Int) := ⟨c.f0.toNat, by omega⟩
    have hao : arity c.f0 = arityAt o := by unfold arity; rw [if_neg ha, ho, Int.toNat_natCast]
    have hle := arity_range o (by omega)
    rw [hao] at h2
    exact ⟨o, ho, by omega, by omega, hao, by omega, by omega⟩
  · rcases h10 with h10 | h10
    · omega
    · exact h10
theorem valid_arity {c : S31} (h : validC c = true) : 0 ≤ arity c.f0 := by
  unfold validC at h
  simp only [Bool.and_eq_true, decide_eq_true_eq] at h
  exact h.1.1.1.1.1.1.1.1.1
theorem own_one (W : World) (M : Nat) (hM : M ≤ W.heap.size) (s : ByteArray) (o : Obj) : Kd.R Kd.string 9 ((W.alloc (.cells #[.string s] 9)).alloc o) M (fun k => k ≠ W.heap.size + 1) (.slice (some ⟨W.heap.size, 0, none⟩) 1 1) [s] := by
  have h := World.ownsRow_lit (base := M) (e := 9) (size := 1) W #[.string s] 1 hM (by unfold maxLen; omega) (by simp)
  refine Kd.R_alloc (Kd.R_of_own (xs := [s]) h (fun k hk => ?_)) o
  simp only [Value.ownBlock] at hk
  simp at hk
  omega
theorem name_len (i : Nat) (h : i ≤ 20) : (nameAt i).length ≤ 10 := by
  have h2 : ∀ j : Fin 21, (nameAt j.val).length ≤ 10 := by decide
  exact h2 ⟨i, by omega⟩
theorem itoa_len (n : Int) (h0 : 0 ≤ n) (h1 : n ≤ 65535) : (Lib.itoa n).length ≤ 5 := by
  obtain ⟨u, rfl⟩ := Int.eq_ofNat_of_zero_le h0
  rw [itoa_nat, Lib.decDigits_length]
  exact nDigits_le 4 u (by omega)
theorem join_len (sep : List UInt8) : ∀ xs : List (List UInt8), (Lib.join xs sep).length ≤ (xs.map fun x => x.length + sep.length).sum
  | [] => Nat.le_refl _
  | [x] => by simp [Lib.join, List.intercalate]
  | x :: y :: r => by
    have ih := join_len sep (y :: r)
    have e : Lib.join (x :: y :: r) sep = x ++ (sep ++ Lib.join (y :: r) sep) := by simp [Lib.join, List.intercalate]
    rw [e, List.length_append, List.length_append, List.map_cons, List.sum_cons]
    omega
theorem sum_le (k : Nat) : ∀ l : List Nat, (∀ x ∈ l, x ≤ k) → l.sum ≤ l.length * k
  | [], _ => by simp
  | a :: l, h => by
    have h1 := h a List.mem_cons_self
    have h2 := sum_le k l (fun x hx => h x (List.mem_cons_of_mem _ hx))
    rw [List.sum_cons, List.length_cons, Nat.add_mul]
    omega
theorem line_len {c : S31} (h : validC c = true) : (Lib.join (cmdWords c) [32]).length ≤ 99 ∧ (cmdWords c).length ≤ 9 := by
  obtain ⟨⟨o, ho, ho1, ho2, _, hl, hl3⟩, hn, h2, h3, h4, _⟩ := valid_facts h
  have hw : ∀ x ∈ cmdWords c, x.length ≤ 10 := by
    intro x hx
    unfold cmdWords at hx
    rcases List.mem_cons.1 hx with rfl | hx
    · rw [ho, Int.toNat_natCast]; exact name_len o ho2
    · rcases List.mem_append.1 hx with hx | hx
      · obtain ⟨n, hn', rfl⟩ := List.mem_map.1 hx
        have := itoa_len n (hn n hn').1 (hn n hn').2
        omega
      · rcases List.mem_append.1 hx with hx | hx
        · split at hx
          · cases hx
          · rename_i hne
            simp only [List.mem_cons, List.mem_nil_iff, or_false] at hx
            rcases hx with rfl | rfl | rfl
            · decide
            · have := itoa_len c.f2 (by omega) h2.2; omega
            · have := itoa_len c.f3 h3.1 (by omega); omega
        · split at hx
          · cases hx
          · simp only [List.mem_cons, List.mem_nil_iff, or_false] at hx
            rcases hx with rfl | rfl
            · decide
            · have := itoa_len c.f4 h4.1 h4.2; omega
  have hc : (cmdWords c).length ≤ 9 := by
    unfold cmdWords
    rw [List.length_cons, List.length_append, List.length_append, List.length_map]
    have e1 : (if c.f2 = -1 then ([] : List (List UInt8)) else [cutW, Lib.itoa c.f2, Lib.itoa c.f3]).length ≤ 3 := by split <;> simp
    have e2 : (if c.f4 = 0 then ([] : List (List UInt8)) else [noiseW, Lib.itoa c.f4]).length ≤ 2 := by split <;> simp
    omega
  refine ⟨?_, hc⟩
  have h1 := join_len [32] (cmdWords c)
  have h5 := sum_le 11 ((cmdWords c).map fun x => x.length + [32].length) (by
    intro x hx
    obtain ⟨y, hy, rfl⟩ := List.mem_map.1 hx
    have := hw y hy
    simp only [List.length_singleton]
    omega)
  rw [List.length_map] at h5
  omega
theorem text_len : ∀ l : List S31, (∀ c ∈ l, validC c = true) → (textOf l).length ≤ l.length * 100
  | [], _ => by simp [textOf]
  | c :: l, h => by
    have ih := text_len l (fun x hx => h x (List.mem_cons_of_mem _ hx))
    have h1 := (line_len (h c List.mem_cons_self)).1
    unfold textOf at ih ⊢
    rw [List.flatMap_cons, List.length_append, List.length_cons, Nat.add_mul]
    unfold lineOf at ih ⊢
    rw [List.length_append, List.length_singleton]
    omega
theorem text_snoc (l : List S31) (c : S31) : textOf (l ++ [c]) = textOf l ++ (Lib.join (cmdWords c) [32] ++ [10]) := by
  unfold textOf lineOf
  rw [List.flatMap_append]
  simp
def mkB (l : List UInt8) : ByteArray := ⟨l.toArray⟩
theorem mkB_list (l : List (List UInt8)) : (l.map mkB).map (·.data.toList) = l := by
  rw [List.map_map]
  simp [mkB, Function.comp_def]

theorem join_calls (A0 : Option Addr) (c0 : Nat) (l0 : List ByteArray) (a1 : ByteArray) (w : World) (hr0 : Kd.C Kd.string w A0 l0.length l0) (hc0 : l0.length ≤ c0) (hh : (Lib.join (l0.map (·.data.toList)) a1.data.toList).length ≤ 140737488355328 ∧ l0.length ≤ 140737488355328) :
    Calls Tryd.prog 34 #[.slice A0 l0.length c0, .string a1] w fun e w' => e = .returned (.string ⟨(Lib.join (l0.map (·.data.toList)) a1.data.toList).toArray⟩) ∧ Below w.heap.size w w' := by
  cases l0 with
  | nil => exact (Tryd.strings_Join_none A0 c0 a1 w).mono fun e w' ⟨he, hw⟩ => ⟨he, hw ▸ Below.refl _ _⟩
  | cons x t =>
    obtain ⟨ad, rfl, hc⟩ := hr0.2.2 (by simp)
    have cell : ∀ (j : Nat) (y : ByteArray), (x :: t)[j]? = some y → w.cell? (ad.add (j * 1 + 0)) = some (.string y) := by
      intro j y hj
      obtain ⟨c, _, hk, hcell⟩ := hc j y hj
      obtain rfl : c = [.string y] := hk
      exact hcell 0 _ rfl
    obtain ⟨bk, o, sp⟩ := ad
    have h0 := cell 0 x rfl
    obtain rfl : sp = none := by
      cases sp with
      | none => rfl
      | some k =>
        simp only [Addr.add, Nat.zero_mul, Nat.add_zero, if_true, World.cell?] at h0
        split at h0 <;> simp at h0
    have cell2 : ∀ (j : Nat) (y : ByteArray), (x :: t)[j]? = some y → w.cell? ⟨bk, o + j, none⟩ = some (.string y) := by
      intro j y hj
      have hj2 := cell j y hj
      have e : (⟨bk, o, none⟩ : Addr).add (j * 1 + 0) = ⟨bk, o + j, none⟩ := by
        unfold Addr.add
        split
        · rename_i hz
          obtain rfl : j = 0 := by omega
          rfl
        · simp
      rw [e] at hj2
      exact hj2
    have hbk : bk < w.heap.size := World.block_lt_of_cell? w _ (cell2 0 x rfl)
    exact Tryd.strings_Join bk o c0 (x :: t) a1 w cell2 hbk hh.2 hc0 hh.1

/-- A builder stays where nothing below M is written, M above its blocks. -/
theorem builder_kept {B b M : Nat} {bs : List Value} {W W' : World} (h : Lib.IsBuilder 64 5 B b bs W) (hM : W.heap.size ≤ M) (hb : Below M W W' ∨ ∃ W1, Below W.heap.size W W1 ∧ Below M W1 W') : Lib.IsBuilder 64 5 B b bs W' := by
  have hbl : ∀ k, k < W.heap.size → W'.heap[k]? = W.heap[k]? := by
    intro k hk
    rcases hb with hb | ⟨W1, h1, h2⟩
    · exact hb.block k (by omega)
    · exact (h2.block k (by omega)).trans (h1.block k hk)
  have key : ∀ p, Lib.BuilderAt 64 5 B b p bs W → Lib.BuilderAt 64 5 B b p bs W' := by
    rintro p ⟨hB, v, hv, ho, hne⟩
    exact ⟨hB, v, (hbl b (blk_lt hv)).trans hv, own_move ho (fun k hk => hbl k (own_lt ho k hk)), hne⟩
  exact h.imp (key _) (key _)
end Go.Proofs.YtinmehodkeofaaaDoor.Q
namespace Go.Proofs.YtinmehodkeofaaaDoor.Q
open Go.RowKit Go.Proofs.YtinmehodkeofaaaDoorW.PrintWords Go.Proofs.YtinmehodkeofaaaDoorW.PrintLast Go.Proofs.YtinmehodkeofaaaDoorW.PrintMore
set_option linter.unusedVariables false
set_option linter.unusedSimpArgs false

/-- The words, and what lies below M. -/
def TMem (M g : Nat) (words : List (List UInt8)) (wb W : World) : Prop :=
  ∃ v, W.heap[g]? = some (.cells #[v] 45 (0, 0)) ∧ Kd.R Kd.string 9 W M (fun k => k ≠ g) v (words.map mkB) ∧ Below M wb W
theorem TMem.clo {M g : Nat} {words : List (List UInt8)} {wb W W' : World} {e : Ending} {s : List UInt8} (h : TMem M g words wb W) (hc : CloPost M g (words.map mkB ++ [mkB s]) W e W') : TMem M g (words ++ [s]) wb W' := by
  obtain ⟨v, h1, h2, h3⟩ := h
  obtain ⟨_, v', g1, g2, g3⟩ := hc
  exact ⟨v', g1, by rw [List.map_append]; exact g2, h3.trans g3⟩
theorem TMem.call {M g : Nat} {words : List (List UInt8)} {wb W : World} (h : TMem M g words wb W) (hT : Tabs W) (hM : M ≤ W.heap.size) (hg : M ≤ g) (n : Int) (h0 : -1 ≤ n) (h1 : n ≤ 65535) (hl : words.length ≤ 1000) :
    Calls Tryd.prog 31 #[.int .i64 n, .pointer (some ⟨g, 0, none⟩)] W fun e W' => (∃ u, e = .returned u) ∧ TMem M g (words ++ [Lib.itoa n]) wb W' ∧ Below M W W' := by
  obtain ⟨v, g1, g2, g3⟩ := h
  refine (clo_calls n (by omega) (by omega) M g v (words.map mkB) W hT hM hg g1 g2 (by rw [List.length_map]; omega)).mono fun e W' hc => ⟨hc.1, ?_, hc.2.elim fun _ h => h.2.2⟩
  exact TMem.clo ⟨v, g1, g2, g3⟩ hc
theorem TMem.below {M g : Nat} {words : List (List UInt8)} {wb W : World} (h : TMem M g words wb W) : Below M wb W := h.elim fun _ h => h.2.2
/-- An append of a plain word, stored back. -/
theorem TMem.app {M g : Nat} {words : List (List UInt8)} {s : List UInt8} {wb W W' : World} {v v' : Value} (hW : Below M wb W) (hg : M ≤ g) (hbk : W.heap[g]? = some (.cells #[v] 45 (0, 0))) (hR : Kd.R Kd.string 9 W M (fun k => k ≠ g) v (words.map mkB))
    (ho : Kd.R Kd.string 9 W' M (fun k => k ≠ g) v' (words.map mkB ++ [mkB s])) (hb : Below M W W') (hgr : W.grownBy W' v.ownBlock) : TMem M g (words ++ [s]) wb (W'.setCell ⟨g, 0, none⟩ v') ∧ W'.heap[g]? = some (.cells #[v] 45 (0, 0)) := by
  have hne : some g ≠ v.ownBlock := fun e => (hR.1 g e.symm) rfl
  have h7 := blk_grown hbk hgr hne
  exact ⟨⟨v', blk_put h7 0 _ rfl, by rw [List.map_append]; exact Kd.R_far ho (p := ⟨g, 0, none⟩) (fun k hk => hk) _, (hW.trans hb).setCell hg _⟩, h7⟩

set_option maxHeartbeats 2000000 in
set_option maxRecDepth 100000 in
theorem text_walk (A0 : Option Addr) (c0 : Nat) (l0 : List S31) (w : World) (hT : Tabs w) (hr0 : Kd.C k31 w A0 l0.length l0) (hc0 : l0.length ≤ c0) (hl : l0.length ≤ 1000) (hv : ∀ c ∈ l0, validC c = true) :
    Calls Tryd.prog 17 #[.slice A0 l0.length c0] w fun e w' => e = .returned (.string ⟨(textOf l0).toArray⟩) ∧ Below w.heap.size w w' := by
  obtain ⟨n, hn⟩ : ∃ n, n = l0.length := ⟨_, rfl⟩
  rw [← hn] at hr0 hc0 hl ⊢
  have HN := Aside0.mk hn
  have HR0 := Aside0.mk hr0
  have HV := Aside0.mk hv
  have HT := Aside0.mk hT
  clear hn hr0 hv hT hc0
  have hu31 := Tryd.underlying31
  go_enter Tryd.func17, Tryd.ntmps17
  go_wp2
  go_loopg [12] n (fun k v12 wr => ∃ i : Nat, v12 = .int .i64 (i : Int) ∧ i + k = n ∧ Lib.IsBuilder 64 5 w.heap.size w.heap.size (Lib.byteCells (textOf (l0.take i))) wr ∧ Below w.heap.size w wr)
  case atStart => exact ⟨0, rfl, by omega, .inl ⟨Nat.le_refl _, _, blk_new w _, own_nil _ _ _ _, by simp [Value.ownBlock]⟩, (Below.refl _ _).alloc (Nat.le_refl _) _⟩
  case round =>
    obtain ⟨wp, hwp⟩ : ∃ wp, wp = wr := ⟨_, rfl⟩
    subst hwp
    obtain ⟨gq, hgq⟩ : ∃ gq, gq = gk := ⟨_, rfl⟩
    subst hgq
    obtain ⟨i, rfl, hik, hbd, hB⟩ := hrel
    have HIK := Aside0.mk hik
    have HBD := Aside0.mk hbd
    have HB := Aside0.mk hB
    by_cases hi : i < n
    · have hiI : ((i : Int) < (n : Int)) = True := eq_true (by omega)
      obtain ⟨ad, A1, c1, hA, x0, x1, x2, x3, x4, hlc, hrd⟩ := at_T31 HR0.out (i : Int) (by omega) (by omega)
      subst hA
      rw [Int.toNat_natCast] at x0 x1 x2 x3 x4
      obtain ⟨c, hc⟩ : ∃ c, c = rd_T31 l0 (i : Int) := ⟨_, rfl⟩
      rw [← hc] at x0 x1 x2 x3 x4 hlc hrd
      have hci : l0[i]? = some c := by
        rw [hc, rd_T31, Int.toNat_natCast, List.getD_eq_getElem?_getD, List.getElem?_eq_getElem (by rw [← HN.out]; exact hi)]
        rfl
      have hval := HV.out c (List.mem_of_getElem? hci)
      have HVAL := Aside0.mk hval
      have HCI := Aside0.mk hci
      clear hc hci hik hbd
      obtain ⟨⟨o, ho, ho1, ho2, hao, hal, hal3⟩, hargs, hcut, hbyt, hnoi, _⟩ := valid_facts hval
      obtain ⟨f0, f1, f2, f3, f4⟩ := c
      simp only [] at x0 x1 x2 x3 x4 hlc hrd ho hao hal hal3 hargs hcut hbyt hnoi
      replace x0 := pw_cell_below (Below.mono hB (Nat.le_refl _)) x0
      replace x1 := pw_cell_below (Below.mono hB (Nat.le_refl _)) x1
      replace x2 := pw_cell_below (Below.mono hB (Nat.le_refl _)) x2
      replace x3 := pw_cell_below (Below.mono hB (Nat.le_refl _)) x3
      replace x4 := pw_cell_below (Below.mono hB (Nat.le_refl _)) x4
      have HARI := Aside0.mk (valid_arity hval)
      clear hB hval
      obtain ⟨m, hm⟩ : ∃ m, m = f1.length := ⟨_, rfl⟩
      rw [← hm] at x1 hrd
      have HM := Aside0.mk hm
      have HRD := Aside0.mk hrd
      have har : decide (arity f0 < 0) = false := decide_eq_false (by have := valid_arity HVAL.out; simp only [] at this; omega)
      subst ho
      have HARY := Lib.hid (fun (W : World) (h : Tabs W) => script_Arity.calls (o : Int) (arity (o : Int)) W h rfl)
      obtain ⟨ar, hare⟩ : ∃ ar, ar = arity (o : Int) := ⟨_, rfl⟩
      rw [← hare] at HARY har
      have ho21 : ((o : Int) < 21) = True := eq_true (by omega)
      have ho0 : (0 ≤ (o : Int)) = True := eq_true (by omega)
      have ho21' : o < 21 := by omega
      have HNM := Aside0.mk (fun (W : World) (h : Tabs W) => (ops_cell h _).trans (opsCells_name o (by omega)))
      have HAL := Aside0.mk hal
      have HARGS := Aside0.mk hargs
      have HCUT := Aside0.mk hcut
      have HBYT := Aside0.mk hbyt
      have HNOI := Aside0.mk hnoi
      have HHA := Aside0.mk hal3
      have HLC := Aside0.mk hlc
      clear hare hao hal hargs hcut hbyt hnoi hm hrd hlc hal3
      obtain ⟨S, hS⟩ : ∃ S : ByteArray, S = ⟨(nameAt o).toArray⟩ := ⟨_, rfl⟩
      rw [← hS] at HNM
      have HS := Aside0.mk hS
      clear hS
      go_upto_region 8 with (first | (go_at_call 15; (with_reducible refine (HARY.out _ (tabs_step HT.out (HB.out.alloc HB.out.size _))).mono ?_); rintro e w3 ⟨rfl, hb3⟩; have HB3 := Aside0.mk hb3; have hnm := HNM.out w3 (tabs_step HT.out ((HB.out.alloc HB.out.size _).trans (hb3.mono (by rw [World.size_alloc]; have := HB.out.size; omega)))); have hfb := blk_below (blk_new wp (.cells #[.int .i64 (o : Int), .slice A1 m c1, .int .i64 f2, .int .i64 f3, .int .i64 f4] 31)) hb3; have y0 : w3.cell? ⟨wp.heap.size, 0, none⟩ = some (.int .i64 (o : Int)) := (blk_cell hfb 0).trans rfl; clear hb3 hfb))
      have hs3 := HB3.out.size
      rw [World.size_alloc] at hs3
      obtain ⟨M, hM⟩ : ∃ M, M = wp.heap.size + 1 := ⟨_, rfl⟩
      have hpM : wp.heap.size < M := by omega
      have hM3 : M ≤ w3.heap.size := by omega
      have hwM : w.heap.size ≤ M := by have := HB.out.size; omega
      have hgM : M ≤ w3.heap.size + 1 := by omega
      have hTM : TMem M (w3.heap.size + 1) [nameAt o] w3 ((w3.alloc (.cells #[.string S] 9)).alloc (.cells #[.slice (some ⟨w3.heap.size, 0, none⟩) 1 1] 45)) := ⟨_, by have := blk_new (w3.alloc (.cells #[.string S] 9)) (.cells #[.slice (some ⟨w3.heap.size, 0, none⟩) 1 1] 45); rw [World.size_alloc] at this; exact this, by rw [HS.out]; exact own_one w3 M hM3 _ _, ((Below.refl M w3).alloc hM3 _).alloc (by rw [World.size_alloc]; omega) _⟩
      have HFC := Aside0.mk (fun (W : World) (h : Below M w3 W) => (h.block wp.heap.size hpM).trans (blk_below (blk_new wp (.cells #[.int .i64 (o : Int), .slice A1 m c1, .int .i64 f2, .int .i64 f3, .int .i64 f4] 31)) HB3.out))
      have HWB := Aside0.mk (fun (W : World) (h : Below M w3 W) => ((HB.out.trans (((Below.refl wp.heap.size wp).alloc (Nat.le_refl _) _).trans (HB3.out.mono (by rw [World.size_alloc]; omega)) |>.mono HB.out.size)).trans (h.mono hwM) : Below w.heap.size w W))
      have HBK := Aside0.mk (fun (W : World) (h : Below M w3 W) => (builder_kept HBD.out (Nat.le_of_lt hpM) (.inr ⟨w3, ((Below.refl wp.heap.size wp).alloc (Nat.le_refl _) (.cells #[.int .i64 (o : Int), .slice A1 m c1, .int .i64 f2, .int .i64 f3, .int .i64 f4] 31)).trans (HB3.out.mono (by rw [World.size_alloc]; omega)), h⟩) : Lib.IsBuilder 64 5 w.heap.size w.heap.size (Lib.byteCells (textOf (l0.take i))) W))
      have HMW := Aside0.mk (fun (W : World) (h : Below M w3 W) => Nat.le_trans hM3 h.size)
      clear hs3 hM hnm y0 x0 x1 x2 x3 x4 HBD HNM HARY HS
      generalize hg : w3.heap.size + 1 = g at hTM hgM ⊢
      generalize hW4 : ((w3.alloc (.cells #[.string S] 9)).alloc (.cells #[.slice (some ⟨w3.heap.size, 0, none⟩) 1 1] 45)) = W4 at hTM ⊢
      have HTM := Aside0.mk hTM
      have y1 : W4.cell? ⟨wp.heap.size, 1, none⟩ = some (.slice A1 m c1) := (blk_cell (HFC.out W4 hTM.below) 1).trans rfl
      clear hTM hg hW4
      go_wp2
      go_loopg [30] m (fun k v30 wr => ∃ j : Nat, v30 = .int .i64 (j : Int) ∧ j + k = m ∧ TMem M g (nameAt o :: (f1.take j).map Lib.itoa) w3 wr)
      case atStart => exact ⟨0, rfl, by omega, HTM.out⟩
      case round =>
        obtain ⟨j, rfl, hjk, hTj⟩ := hrel
        have HJK := Aside0.mk hjk
        have HTJ := Aside0.mk hTj
        by_cases hj : j < m
        · have hm3 : m ≤ 3 := by rw [HM.out]; exact HHA.out
          have hjI : ((j : Int) < (m : Int)) = True := eq_true (by omega)
          obtain ⟨xj, hxj⟩ : ∃ xj, f1[j]? = some xj := ⟨_, List.getElem?_eq_getElem (by rw [← HM.out]; exact hj)⟩
          have hxb := HARGS.out xj (List.mem_of_getElem? hxj)
          obtain ⟨adj, cj, rfl, _, hKj, hcj⟩ := Kd.C_get (Kd.C_below HRD.out (Below.mono (HWB.out wr hTj.below) (Nat.le_refl _))) 0 (j : Int) (by omega) (by omega)
          have hxj2 : f1.getD (j : Int).toNat 0 = xj := by rw [Int.toNat_natCast, List.getD_eq_getElem?_getD, hxj]; rfl
          rw [hxj2] at hKj
          obtain rfl : cj = [.int .i64 xj] := hKj
          have hcell : wr.cell? (adj.add j) = some (.int .i64 xj) := by have h := hcj 0 _ rfl; simpa [Kd.int, Kd.scalar] using h
          have HXJ := Aside0.mk hxj
          have HCL := Lib.hid (TMem.call hTj (tabs_step HT.out (HWB.out wr hTj.below)) (HMW.out wr hTj.below) hgM xj (by omega) hxb.2 (by simp; have := HHA.out; omega))
          clear hxj hxb hcj hxj2 hTj hjk
          go_wp2_with (first | (go_at_call 31; (with_reducible refine HCL.out.mono ?_); rintro e w5 ⟨⟨u, rfl⟩, hT5, _⟩; have HT5 := Aside0.mk hT5; clear hT5))
          go_roundg (gk - 1)
          case measure => have := HJK.out; omega
          case rel => exact ⟨j + 1, by go_num, by have := HJK.out; omega, by have h := HT5.out; rw [List.take_add_one, HXJ.out]; simpa using h⟩
        · have hjm : j = m := by omega
          subst hjm
          have HT6 := Aside0.mk (show TMem M g (nameAt o :: f1.map Lib.itoa) w3 wr from by have h := hTj; rw [HM.out, List.take_length] at h; exact h)
          have hjI : decide ((j : Int) < (j : Int)) = false := decide_eq_false (by omega)
          have y2 : wr.cell? ⟨wp.heap.size, 2, none⟩ = some (.int .i64 f2) := (blk_cell (HFC.out wr hTj.below) 2).trans rfl
          clear hTj hjk HTJ HTM
          go_upto_if 40 with (fail)
          go_cut [7] (fun v7 wc => v7 = .func (.func 31) #[] #[.pointer (some ⟨g, 0, none⟩)] ∧ TMem M g (nameAt o :: (f1.map Lib.itoa ++ (if f2 = -1 then [] else [cutW, Lib.itoa f2, Lib.itoa f3]))) w3 wc)
          case first =>
            by_cases hc2 : f2 = -1
            · have hcb : (f2 != -1) = false := by rw [hc2]; rfl
              have HT7 := Aside0.mk (show TMem M g (nameAt o :: (f1.map Lib.itoa ++ (if f2 = -1 then [] else [cutW, Lib.itoa f2, Lib.itoa f3]))) w3 wr from by rw [if_pos hc2, List.append_nil]; exact HT6.out)
              clear hc2
              go_wp2
              go_meet
              case rel => exact ⟨rfl, HT7.out⟩
            · have hcb : (f2 != -1) = true := by rw [bne_iff_ne]; exact hc2
              obtain ⟨v6, hk6, hR6, hB6⟩ := HT6.out
              obtain ⟨A6, c6, e6⟩ := Kd.R_slice hR6
              obtain ⟨n6, hn6⟩ : ∃ n6, n6 = ((nameAt o :: f1.map Lib.itoa).map mkB).length := ⟨_, rfl⟩
              have HLW := Aside0.mk (show (((nameAt o :: f1.map Lib.itoa).map mkB).length + 1) * 16 ≤ 140737488355328 by simp; have := HHA.out; omega)
              rw [← hn6] at e6
              clear hn6
              have q6 : wr.cell? ⟨g, 0, none⟩ = some v6 := (blk_cell hk6 0).trans rfl
              have hgl := blk_lt hk6
              have HFR := Aside0.mk (fun k (hk : wr.heap.size ≤ k) => (show k ≠ g by omega))
              have HK6 := Aside0.mk hk6
              have HR6 := Aside0.mk hR6
              have HB6 := Aside0.mk hB6
              subst e6
              clear hk6 hR6 hB6 hgl
              have HC1 := Lib.hid (fun (W : World) (h : TMem M g ((nameAt o :: f1.map Lib.itoa) ++ [cutW]) w3 W) => TMem.call h (tabs_step HT.out (HWB.out W h.below)) (HMW.out W h.below) hgM f2 HCUT.out.1 HCUT.out.2 (by simp; have := HHA.out; omega))
              have HC2 := Lib.hid (fun (W : World) (h : TMem M g (((nameAt o :: f1.map Lib.itoa) ++ [cutW]) ++ [Lib.itoa f2]) w3 W) => TMem.call h (tabs_step HT.out (HWB.out W h.below)) (HMW.out W h.below) hgM f3 (by have := HBYT.out; omega) (by have := HBYT.out; omega) (by simp; have := HHA.out; omega))
              have hif : (if f2 = -1 then ([] : List (List UInt8)) else [cutW, Lib.itoa f2, Lib.itoa f3]) = [cutW, Lib.itoa f2, Lib.itoa f3] := if_neg hc2
              have HIF := Aside0.mk hif
              clear hc2 hif
              go_wp2_with (first
                | ((with_reducible refine gate_builtin (b := .append) (xs := #[.tmp 41, .tmp 42]) rfl ?_); at_builtin; refine Kd.R_append Kd.string (w0 := wr) M rfl (.tmp 41) (.tmp 42) 45 9 (.string ⟨#[]⟩) 16 rfl Tryd.underlying45 info9 rfl (by decide) (by omega) (.slice A6 n6 c6) ((nameAt o :: f1.map Lib.itoa).map mkB) (mkB cutW) [.string (mkB cutW)] (fun k => k ≠ g) (fun _ => False) rfl rfl rfl (fun _ hk => hk.elim) HFR.out HR6.out (Below.refl _ _) (HMW.out _ HB6.out) HLW.out ?_; intro v7 w7 ho hb hg hat; obtain ⟨A7, c7, e7⟩ := Kd.R_slice ho; obtain ⟨n7, hn7⟩ : ∃ n7, n7 = ((nameAt o :: f1.map Lib.itoa).map mkB ++ [mkB cutW]).length := ⟨_, rfl⟩; rw [← hn7] at e7; subst e7; clear hn7; obtain ⟨ht7, hk7⟩ := TMem.app HB6.out hgM HK6.out HR6.out ho hb hg; have HT7 := Aside0.mk ht7; have q7 : w7.cell? ⟨g, 0, none⟩ = some (.slice A6 n6 c6) := (blk_cell hk7 0).trans rfl; have z7 := blk_frozen hk7 0; have x2 := (blk_cell (HFC.out _ ht7.below) 2); have HC1' := Lib.hid (HC1.out _ ht7); clear ho hb hg hat ht7 hk7)
                | (go_at_call 31; (with_reducible refine HC1'.out.mono ?_); rintro e w8 ⟨⟨u8, rfl⟩, ht8, _⟩; have x3 := (blk_cell (HFC.out _ ht8.below) 3); have HC2' := Lib.hid (HC2.out _ ht8); clear ht8)
                | (go_at_call 31; (with_reducible refine HC2'.out.mono ?_); rintro e w9 ⟨⟨u9, rfl⟩, ht9, _⟩; have HT9 := Aside0.mk ht9; clear ht9))
              go_meet
              case rel => exact ⟨rfl, by rw [HIF.out]; have h := HT9.out; simpa using h⟩
          case rest =>
            obtain ⟨rfl, hT9⟩ := hcut
            clear HT6
            obtain ⟨ws, hws⟩ : ∃ ws, ws = nameAt o :: (f1.map Lib.itoa ++ (if f2 = -1 then [] else [cutW, Lib.itoa f2, Lib.itoa f3])) := ⟨_, rfl⟩
            have HWS := Aside0.mk hws
            have HWL := Aside0.mk (show ws.length ≤ 10 by
              rw [hws, List.length_cons, List.length_append, List.length_map]
              have e1 : (if f2 = -1 then ([] : List (List UInt8)) else [cutW, Lib.itoa f2, Lib.itoa f3]).length ≤ 3 := by split <;> simp
              have := HHA.out
              omega)
            rw [← hws] at hT9
            have HT9 := Aside0.mk hT9
            have y4 : wc.cell? ⟨wp.heap.size, 4, none⟩ = some (.int .i64 f4) := (blk_cell (HFC.out wc hT9.below) 4).trans rfl
            clear hws hT9
            go_upto_if 54 with (fail)
            go_cut [7] (fun v7 wc => v7 = .func (.func 31) #[] #[.pointer (some ⟨g, 0, none⟩)] ∧ TMem M g (ws ++ (if f4 = 0 then [] else [noiseW, Lib.itoa f4])) w3 wc)
            case first =>
              by_cases hc4 : f4 = 0
              · have hcb : (f4 != 0) = false := by rw [hc4]; rfl
                have HT7 := Aside0.mk (show TMem M g (ws ++ (if f4 = 0 then [] else [noiseW, Lib.itoa f4])) w3 wc from by rw [if_pos hc4, List.append_nil]; exact HT9.out)
                clear hc4
                go_wp2
                go_meet
                case rel => exact ⟨rfl, HT7.out⟩
              · have hcb : (f4 != 0) = true := by rw [bne_iff_ne]; exact hc4
                obtain ⟨v6, hk6, hR6, hB6⟩ := HT9.out
                obtain ⟨A6, c6, e6⟩ := Kd.R_slice hR6
                obtain ⟨n6, hn6⟩ : ∃ n6, n6 = (ws.map mkB).length := ⟨_, rfl⟩
                have HLW := Aside0.mk (show ((ws.map mkB).length + 1) * 16 ≤ 140737488355328 by rw [List.length_map]; have := HWL.out; omega)
                rw [← hn6] at e6
                have HN6 := Aside0.mk hn6
                clear hn6
                have q6 : wc.cell? ⟨g, 0, none⟩ = some v6 := (blk_cell hk6 0).trans rfl
                have hgl := blk_lt hk6
                have HFR := Aside0.mk (fun k (hk : wc.heap.size ≤ k) => (show k ≠ g by omega))
                have HK6 := Aside0.mk hk6
                have HR6 := Aside0.mk hR6
                have HB6 := Aside0.mk hB6
                subst e6
                clear hk6 hR6 hB6 hgl
                have HC1 := Lib.hid (fun (W : World) (h : TMem M g (ws ++ [noiseW]) w3 W) => TMem.call h (tabs_step HT.out (HWB.out W h.below)) (HMW.out W h.below) hgM f4 (by have := HNOI.out; omega) (by have := HNOI.out; omega) (by simp; have := HWL.out; omega))
                have hif : (if f4 = 0 then ([] : List (List UInt8)) else [noiseW, Lib.itoa f4]) = [noiseW, Lib.itoa f4] := if_neg hc4
                have HIF := Aside0.mk hif
                clear hc4 hif
                go_wp2_with (first
                  | ((with_reducible refine gate_builtin (b := .append) (xs := #[.tmp 55, .tmp 56]) rfl ?_); at_builtin; refine Kd.R_append Kd.string (w0 := wc) M rfl (.tmp 55) (.tmp 56) 45 9 (.string ⟨#[]⟩) 16 rfl Tryd.underlying45 info9 rfl (by decide) (by omega) (.slice A6 n6 c6) (ws.map mkB) (mkB noiseW) [.string (mkB noiseW)] (fun k => k ≠ g) (fun _ => False) rfl rfl rfl (fun _ hk => hk.elim) HFR.out HR6.out (Below.refl _ _) (HMW.out _ HB6.out) HLW.out ?_; intro v7 w7 ho hb hg hat; obtain ⟨A7, c7, e7⟩ := Kd.R_slice ho; obtain ⟨n7, hn7⟩ : ∃ n7, n7 = (ws.map mkB ++ [mkB noiseW]).length := ⟨_, rfl⟩; rw [← hn7] at e7; subst e7; clear hn7; obtain ⟨ht7, hk7⟩ := TMem.app HB6.out hgM HK6.out HR6.out ho hb hg; have HT7 := Aside0.mk ht7; have q7 : w7.cell? ⟨g, 0, none⟩ = some (.slice A6 n6 c6) := (blk_cell hk7 0).trans rfl; have z7 := blk_frozen hk7 0; have x4 := (blk_cell (HFC.out _ ht7.below) 4); have HC1' := Lib.hid (HC1.out _ ht7); clear ho hb hg hat ht7 hk7)
                  | (go_at_call 31; (with_reducible refine HC1'.out.mono ?_); rintro e w8 ⟨⟨u8, rfl⟩, ht8, _⟩; have HT8 := Aside0.mk ht8; clear ht8))
                go_meet
                case rel => exact ⟨rfl, by rw [HIF.out]; have h := HT8.out; simpa using h⟩
            case rest =>
              obtain ⟨rfl, hT5⟩ := hcut
              clear HT9
              obtain ⟨xs, hxs⟩ : ∃ xs, xs = ws ++ (if f4 = 0 then [] else [noiseW, Lib.itoa f4]) := ⟨_, rfl⟩
              rw [← hxs] at hT5
              have hxw : xs = cmdWords ⟨(o : Int), f1, f2, f3, f4⟩ := by
                rw [hxs, HWS.out]
                unfold cmdWords
                rw [Int.toNat_natCast, List.cons_append, List.append_assoc]
              have HXW := Aside0.mk hxw
              obtain ⟨hll, hlw⟩ := line_len HVAL.out
              rw [← hxw] at hll hlw
              obtain ⟨v6, hk6, hR6, hB6⟩ := hT5
              obtain ⟨A6, c6, e6⟩ := Kd.R_slice hR6
              obtain ⟨n6, hn6⟩ : ∃ n6, n6 = (xs.map mkB).length := ⟨_, rfl⟩
              rw [← hn6] at e6
              subst e6
              have q6 : wc.cell? ⟨g, 0, none⟩ = some (.slice A6 n6 c6) := (blk_cell hk6 0).trans rfl
              obtain ⟨r1, r2, r3⟩ := Kd.R_reads' hR6
              have hJ := join_calls A6 c6 (xs.map mkB) ⟨#[32]⟩ wc r3 (by rw [← r1]; exact r2) (by
                rw [mkB_list, List.length_map]
                exact ⟨by show (Lib.join xs [32]).length ≤ _; omega, by omega⟩)
              rw [mkB_list, ← hn6] at hJ
              obtain ⟨J, hJe⟩ : ∃ J : ByteArray, J = ⟨(Lib.join xs [32]).toArray⟩ := ⟨_, rfl⟩
              rw [show (⟨(Lib.join xs (⟨#[32]⟩ : ByteArray).data.toList).toArray⟩ : ByteArray) = J from hJe.symm] at hJ
              have HJ := Lib.hid hJ
              have hJs : J.size ≤ 99 := by rw [hJe]; exact hll
              have hJs1 : (J.size + 1 ≤ 9223372036854775807) = True := eq_true (by omega)
              have hJs2 : (9223372036854775807 < J.size + 1) = False := eq_false (by omega)
              have HJE := Aside0.mk hJe
              have HB6 := Aside0.mk hB6
              have HWR := Lib.hid (fun (W : World) (h : Below wc.heap.size wc W) => Tryd.Builder_WriteString w.heap.size w.heap.size _ (J ++ ⟨#[10]⟩) W (HBK.out W (hB6.trans (h.mono (HMW.out wc hB6 |> fun h2 => Nat.le_trans (Nat.le_refl _) (hB6.size |> fun h3 => by omega))))) (by
                have h1 := text_len (l0.take i) (fun c hc => HV.out c (List.mem_of_mem_take hc))
                have h2 : (l0.take i).length ≤ 1000 := by rw [List.length_take]; omega
                rw [Lib.byteCells_length, ByteArray.size_append]
                show (textOf (l0.take i)).length + (J.size + 1) ≤ _
                omega) (Nat.le_trans hwM (Nat.le_trans hM3 (Nat.le_trans hB6.size h.size))))
              have HWC := Aside0.mk (HWB.out wc hB6)
              have HB6' := HB6
              clear hk6 hR6 hB6 r1 r2 r3 hJ hn6 hJs hJe hll hlw hxw hxs
              go_wp2_with (first
                | (go_at_call 34; (with_reducible refine HJ.out.mono ?_); rintro e w7 ⟨rfl, hb7⟩; have HWR' := Lib.hid (HWR.out w7 hb7); have HB7 := Aside0.mk (HWC.out.trans (hb7.mono HWC.out.size)); clear hb7)
                | (go_at_call 33; (with_reducible refine HWR'.out.mono ?_); rintro e w8 ⟨rfl, hbd8, hb8⟩; have HBD8 := Aside0.mk hbd8; have HB8 := Aside0.mk hb8; clear hbd8 hb8))
              go_roundg (gq - 1)
              case measure => have := HIK.out; omega
              case rel => exact ⟨i + 1, by go_num, by have := HIK.out; omega, .inr (by
                have h := HBD8.out
                rw [List.take_add_one, HCI.out]
                show Lib.BuilderAt _ _ _ _ _ (Lib.byteCells (textOf (l0.take i ++ [_]))) _
                rw [text_snoc, Lib.byteCells_append]
                rw [Lib.strCells_eq, show (J ++ ⟨#[10]⟩ : ByteArray).data.toList = Lib.join (cmdWords ⟨(o : Int), f1, f2, f3, f4⟩) [32] ++ [10] from by rw [HJE.out, HXW.out]; simp] at h
                exact h), HB7.out.trans HB8.out⟩
    · have hin : i = n := by omega
      subst hin
      have hiI : decide ((i : Int) < (i : Int)) = false := decide_eq_false (by omega)
      have HST := Lib.hid (Tryd.Builder_String_any w.heap.size w.heap.size (textOf l0) _ (by have h := HBD.out; rw [HN.out, List.take_length] at h; exact h) HB.out.size)
      clear hbd hB hik
      go_wp2_with (first | (go_at_call 35; (with_reducible refine HST.out.mono ?_); rintro e w9 ⟨rfl, hb9⟩; have HB9 := Aside0.mk (HB.out.trans hb9); clear hb9))
      go_ret
      exact ⟨rfl, HB9.out⟩

theorem script_Text.calls (A0 : Option Addr) (c0 : Nat) (l0 : List (S31)) (r : ByteArray) (w : World) (hT_ : Tabs w) (hr0 : Kd.C k31 w A0 l0.length l0) (hc0 : l0.length ≤ c0) (h : script_Text.f l0 = some r) :
    Calls Tryd.prog 17 #[.slice A0 l0.length c0] w fun e w' => e = .returned (.string r) ∧ Below w.heap.size w w' := by
  unfold script_Text.f at h
  by_cases hh : l0.length ≤ 1000 ∧ l0.all validC = true
  · rw [if_pos hh] at h
    obtain rfl := Option.some.inj h
    exact text_walk A0 c0 l0 w hT_ hr0 hc0 hh.1 (fun c hc => List.all_eq_true.1 hh.2 c hc)
  · rw [if_neg hh] at h
    cases h
end Go.Proofs.YtinmehodkeofaaaDoor.Q
