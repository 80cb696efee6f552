/- Plain laws of the script chapter: what a valid script's text says is that script; scripts put together. -/
import Derived.Test.YtinmehodkeofaaaDoorLRead
import Derived.Test.YtinmehodkeofaaaDoorQx21
namespace Go.Proofs.YtinmehodkeofaaaDoor.Q
open Go.RowKit Go.Proofs.YtinmehodkeofaaaDoorW.PrintWords
set_option linter.unusedVariables false
set_option linter.unusedSimpArgs false

/-! ### Scripts put together -/
theorem cmdsOf_cons (ws : List (List UInt8)) (r : List (List (List UInt8))) : cmdsOf (ws :: r) = if ws = [] then cmdsOf r else (cmdOf ws).bind fun c => (cmdsOf r).map fun l => c :: l := rfl
theorem cmdsOf_append : ∀ (P Q : List (List (List UInt8))), cmdsOf (P ++ Q) = (cmdsOf P).bind fun p => (cmdsOf Q).map fun q => p ++ q
  | [], Q => by cases h : cmdsOf Q <;> simp [cmdsOf, h]
  | ws :: r, Q => by
    have ih := cmdsOf_append r Q
    rw [List.cons_append, cmdsOf_cons, cmdsOf_cons]
    by_cases hw : ws = []
    · rw [if_pos hw, if_pos hw, ih]
    · rw [if_neg hw, if_neg hw, ih]
      cases cmdOf ws <;> cases cmdsOf r <;> cases cmdsOf Q <;> rfl
theorem linesGo_nl : ∀ (a w b : List UInt8), linesGo w (a ++ 10 :: b) = linesGo w a ++ linesOf b
  | [], w, b => by simp [linesGo, linesOf]
  | c :: a, w, b => by
    rw [List.cons_append]
    unfold linesGo
    by_cases h : c = 10
    · rw [if_pos h, if_pos h, linesGo_nl a [] b]
      rfl
    · rw [if_neg h, if_neg h, linesGo_nl a (w ++ [c]) b]
theorem linesOf_app (a b : List UInt8) : linesOf (a ++ 10 :: b) = linesOf a ++ linesOf b := linesGo_nl a [] b

/-! ### What the text of a valid script says -/
def Plain (x : List UInt8) : Prop := x ≠ [] ∧ ∀ c ∈ x, isSep c = false ∧ c ≠ 10
theorem plain_digits {x : List UInt8} (h : Digits x) (hn : x ≠ []) : Plain x := by
  refine ⟨hn, fun c hc => ?_⟩
  have := h c hc
  have ne : ∀ d : UInt8, d.toNat < 48 → c ≠ d := by
    rintro d hd rfl
    omega
  refine ⟨?_, ne 10 (by decide)⟩
  unfold isSep
  rw [beq_eq_false_iff_ne.2 (ne 32 (by decide)), beq_eq_false_iff_ne.2 (ne 9 (by decide))]
  rfl
theorem plain_itoa (v : Int) (h0 : 0 ≤ v) : Plain (Lib.itoa v) := by
  obtain ⟨u, rfl⟩ := Int.eq_ofNat_of_zero_le h0
  rw [itoa_nat]
  obtain ⟨g1, g2, g3⟩ := dec_facts u
  exact plain_digits g1 g3
theorem plain_dec {x : List UInt8} (h : (decide (x ≠ []) && x.all fun c => !isSep c && decide (c ≠ 10)) = true) : Plain x := by
  rw [Bool.and_eq_true, decide_eq_true_eq, List.all_eq_true] at h
  refine ⟨h.1, fun c hc => ?_⟩
  have := h.2 c hc
  rw [Bool.and_eq_true, decide_eq_true_eq, Bool.not_eq_true'] at this
  exact this
theorem plain_name (op : Int) (h0 : 1 ≤ op) (h1 : op ≤ 20) : Plain (nameAt op.toNat) := by
  apply plain_dec
  obtain rfl | rfl | rfl | rfl | rfl | rfl | rfl | rfl | rfl | rfl | rfl | rfl | rfl | rfl | rfl | rfl | rfl | rfl | rfl | rfl : op = 1 ∨ op = 2 ∨ op = 3 ∨ op = 4 ∨ op = 5 ∨ op = 6 ∨ op = 7 ∨ op = 8 ∨ op = 9 ∨ op = 10 ∨ op = 11 ∨ op = 12 ∨ op = 13 ∨ op = 14 ∨ op = 15 ∨ op = 16 ∨ op = 17 ∨ op = 18 ∨ op = 19 ∨ op = 20 := by omega
  all_goals decide
theorem op_name (op : Int) (h0 : 1 ≤ op) (h1 : op ≤ 20) : opOf (nameAt op.toNat) = op.toNat := by
  obtain rfl | rfl | rfl | rfl | rfl | rfl | rfl | rfl | rfl | rfl | rfl | rfl | rfl | rfl | rfl | rfl | rfl | rfl | rfl | rfl : op = 1 ∨ op = 2 ∨ op = 3 ∨ op = 4 ∨ op = 5 ∨ op = 6 ∨ op = 7 ∨ op = 8 ∨ op = 9 ∨ op = 10 ∨ op = 11 ∨ op = 12 ∨ op = 13 ∨ op = 14 ∨ op = 15 ∨ op = 16 ∨ op = 17 ∨ op = 18 ∨ op = 19 ∨ op = 20 := by omega
  all_goals decide
theorem plain_words {c : S31} (h : Ok c) : ∀ x ∈ cmdWords c, Plain x := by
  intro x hx
  unfold cmdWords at hx
  rcases List.mem_cons.1 hx with rfl | hx
  · exact plain_name _ h.op0 h.op1
  · rcases List.mem_append.1 hx with hx | hx
    · obtain ⟨v, hv, rfl⟩ := List.mem_map.1 hx
      exact plain_itoa v (h.args v hv).1
    · rcases List.mem_append.1 hx with hx | hx
      · split at hx
        · cases hx
        · rename_i h2
          have := h.cut0
          have := h.bytes0
          simp only [List.mem_cons, List.not_mem_nil, or_false] at hx
          rcases hx with rfl | rfl | rfl
          · exact plain_dec (by decide)
          · exact plain_itoa _ (by omega)
          · exact plain_itoa _ (by omega)
      · split at hx
        · cases hx
        · have := h.noise0
          simp only [List.mem_cons, List.not_mem_nil, or_false] at hx
          rcases hx with rfl | rfl
          · exact plain_dec (by decide)
          · exact plain_itoa _ (by omega)
theorem wordsGo_word : ∀ (x w l : List UInt8), (∀ c ∈ x, isSep c = false) → wordsGo w (x ++ l) = wordsGo (w ++ x) l
  | [], w, l, _ => by simp
  | c :: x, w, l, h => by
    rw [List.cons_append, wordsGo, h c List.mem_cons_self, if_neg (by simp), wordsGo_word x _ l (fun u hu => h u (List.mem_cons_of_mem _ hu))]
    simp
theorem wordsGo_tail : ∀ (r : List (List UInt8)) (w : List UInt8), w ≠ [] → (∀ x ∈ r, Plain x) → wordsGo w (Lib.joinTail [32] r) = w :: r
  | [], w, hw, _ => by
    show wordsGo w [] = [w]
    rw [wordsGo, if_neg hw]
  | y :: r, w, hw, h => by
    have hy := h y List.mem_cons_self
    have e : Lib.joinTail [32] (y :: r) = 32 :: (y ++ Lib.joinTail [32] r) := by simp [Lib.joinTail]
    rw [e, wordsGo, if_pos (show isSep 32 = true from rfl), if_neg hw, wordsGo_word y [] _ (fun u hu => (hy.2 u hu).1), List.nil_append, wordsGo_tail r y hy.1 (fun x hx => h x (List.mem_cons_of_mem _ hx))]
theorem words_line {c : S31} (h : Ok c) : wordsOf (Lib.join (cmdWords c) [32]) = cmdWords c := by
  have hp := plain_words h
  obtain ⟨x, r, e⟩ : ∃ x r, cmdWords c = x :: r := ⟨_, _, rfl⟩
  rw [e] at hp ⊢
  have hx := hp x List.mem_cons_self
  rw [Lib.join_cons]
  unfold wordsOf
  rw [wordsGo_word x [] _ (fun u hu => (hx.2 u hu).1), List.nil_append, wordsGo_tail r x hx.1 (fun y hy => hp y (List.mem_cons_of_mem _ hy))]
theorem linesGo_line : ∀ (x w l : List UInt8), (∀ c ∈ x, c ≠ 10) → linesGo w (x ++ 10 :: l) = (w ++ x) :: linesOf l
  | [], w, l, _ => by simp [linesGo, linesOf]
  | c :: x, w, l, h => by
    rw [List.cons_append, linesGo, if_neg (h c List.mem_cons_self), linesGo_line x _ l (fun u hu => h u (List.mem_cons_of_mem _ hu))]
    simp
theorem line_no_nl {c : S31} (h : Ok c) : ∀ u ∈ Lib.join (cmdWords c) [32], u ≠ 10 := by
  have hp := plain_words h
  obtain ⟨x, r, e⟩ : ∃ x r, cmdWords c = x :: r := ⟨_, _, rfl⟩
  rw [e] at hp ⊢
  rw [Lib.join_cons]
  intro u hu
  rcases List.mem_append.1 hu with hu | hu
  · exact ((hp x List.mem_cons_self).2 u hu).2
  · unfold Lib.joinTail at hu
    obtain ⟨y, hy, hu⟩ := List.mem_flatten.1 hu
    obtain ⟨z, hz, rfl⟩ := List.mem_map.1 hy
    rcases List.mem_append.1 hu with hu | hu
    · rw [List.mem_singleton.1 hu]
      decide
    · exact ((hp z (List.mem_cons_of_mem _ hz)).2 u hu).2
theorem numsOf_itoa : ∀ (l : List Int) (r : List (List UInt8)), (∀ v ∈ l, 0 ≤ v ∧ v ≤ 65535) → numsOf l.length (l.map Lib.itoa ++ r) = some l
  | [], r, _ => rfl
  | v :: l, r, h => by
    have hv := h v List.mem_cons_self
    rw [List.length_cons, List.map_cons, List.cons_append, numsOf, num_itoa v 65535 hv.1 hv.2 (by omega), Option.bind_some, numsOf_itoa l r (fun x hx => h x (List.mem_cons_of_mem _ hx))]
    rfl
theorem itoa_ne_word {v : Int} (h0 : 0 ≤ v) (w : List UInt8) (hw : (w.all isDigit) = false) : Lib.itoa v ≠ w := by
  obtain ⟨u, rfl⟩ := Int.eq_ofNat_of_zero_le h0
  rw [itoa_nat]
  obtain ⟨g1, _, _⟩ := dec_facts u
  rintro rfl
  rw [(digits_iff _).2 g1] at hw
  cases hw
theorem cmdOf_words {c : S31} (h : Ok c) : cmdOf (cmdWords c) = some c := by
  have hop := op_name _ h.op0 h.op1
  have h0 := h.op0; have h1 := h.op1; have h2 := h.cut0; have h3 := h.cut1; have h4 := h.noise0; have h5 := h.noise1; have h6 := h.bytes0; have h7 := h.bytes1
  have ht : ((c.f0.toNat : Nat) : Int) = c.f0 := by omega
  have hN : (arityAt c.f0.toNat).toNat = c.f1.length := by
    have := h.len
    rw [← ht, arity_at _ (by omega) (by omega)] at this
    omega
  unfold cmdOf cmdWords
  rw [show (nameAt c.f0.toNat :: (c.f1.map Lib.itoa ++ ((if c.f2 = -1 then [] else [cutW, Lib.itoa c.f2, Lib.itoa c.f3]) ++ (if c.f4 = 0 then [] else [noiseW, Lib.itoa c.f4])))).getD 0 [] = nameAt c.f0.toNat from rfl, hop, if_neg (by omega), hN]
  rw [show (nameAt c.f0.toNat :: (c.f1.map Lib.itoa ++ ((if c.f2 = -1 then [] else [cutW, Lib.itoa c.f2, Lib.itoa c.f3]) ++ (if c.f4 = 0 then [] else [noiseW, Lib.itoa c.f4])))).drop 1 = c.f1.map Lib.itoa ++ ((if c.f2 = -1 then [] else [cutW, Lib.itoa c.f2, Lib.itoa c.f3]) ++ (if c.f4 = 0 then [] else [noiseW, Lib.itoa c.f4])) from rfl, numsOf_itoa c.f1 _ h.args, Option.bind_some]
  have hd : (nameAt c.f0.toNat :: (c.f1.map Lib.itoa ++ ((if c.f2 = -1 then [] else [cutW, Lib.itoa c.f2, Lib.itoa c.f3]) ++ (if c.f4 = 0 then [] else [noiseW, Lib.itoa c.f4])))).drop (1 + c.f1.length) = (if c.f2 = -1 then [] else [cutW, Lib.itoa c.f2, Lib.itoa c.f3]) ++ (if c.f4 = 0 then [] else [noiseW, Lib.itoa c.f4]) := by
    rw [Nat.add_comm, List.drop_succ_cons]
    exact List.drop_left' (by simp)
  rw [hd]
  have hnoise : noisePart (if c.f4 = 0 then [] else [noiseW, Lib.itoa c.f4]) = some (c.f4, []) := by
    by_cases hn : c.f4 = 0
    · rw [if_pos hn, hn]
      rfl
    · rw [if_neg hn]
      unfold noisePart
      rw [if_pos (show [noiseW, Lib.itoa c.f4].head? = some noiseW from rfl)]
      show ((num (Lib.itoa c.f4) 65535).bind fun a => if 0 < a then some (a, _) else none) = _
      rw [num_itoa c.f4 65535 h4 h5 (by omega), Option.bind_some, if_pos (by omega)]
      rfl
  have hcut : cutPart ((if c.f2 = -1 then [] else [cutW, Lib.itoa c.f2, Lib.itoa c.f3]) ++ (if c.f4 = 0 then [] else [noiseW, Lib.itoa c.f4])) = some (c.f2, c.f3, if c.f4 = 0 then [] else [noiseW, Lib.itoa c.f4]) := by
    by_cases hc : c.f2 = -1
    · have hb : c.f3 = 0 := h.both.resolve_left (by omega)
      rw [if_pos hc, List.nil_append, hc, hb]
      unfold cutPart
      rw [if_neg]
      split
      · simp
      · show ¬ some noiseW = some cutW
        decide
    · rw [if_neg hc]
      unfold cutPart
      rw [if_pos (show ([cutW, Lib.itoa c.f2, Lib.itoa c.f3] ++ if c.f4 = 0 then [] else [noiseW, Lib.itoa c.f4]).head? = some cutW from rfl)]
      show ((num (Lib.itoa c.f2) 65535).bind fun a => (num (Lib.itoa c.f3) 256).map fun b => (a, b, _)) = _
      rw [num_itoa c.f2 65535 (by omega) h3 (by omega), num_itoa c.f3 256 h6 h7 (by omega), Option.bind_some]
      rfl
  rw [hcut, Option.bind_some]
  show ((noisePart (if c.f4 = 0 then [] else [noiseW, Lib.itoa c.f4])).bind _) = _
  rw [hnoise, Option.bind_some, if_pos rfl, ht]
theorem cmds_text : ∀ (l : List S31), (∀ c ∈ l, Ok c) → cmdsOf ((linesOf (textOf l)).map wordsOf) = some l
  | [], _ => rfl
  | c :: l, h => by
    have hc := h c List.mem_cons_self
    have e : textOf (c :: l) = Lib.join (cmdWords c) [32] ++ 10 :: textOf l := by
      unfold textOf lineOf
      rw [List.flatMap_cons, List.append_assoc]
      rfl
    have e2 : linesOf (textOf (c :: l)) = Lib.join (cmdWords c) [32] :: linesOf (textOf l) := by
      rw [e]
      exact linesGo_line _ [] _ (line_no_nl hc)
    rw [e2, List.map_cons, words_line hc, cmdsOf, if_neg (by unfold cmdWords; simp), cmdOf_words hc, Option.bind_some, cmds_text l (fun x hx => h x (List.mem_cons_of_mem _ hx))]
    rfl
theorem parse_text (l : List S31) (h : ∀ c ∈ l, Ok c) : parse (textOf l) = if 400 < l.length then ([], 2) else (l, 0) := by
  unfold parse
  rw [cmds_text l h]

theorem law_valid_loop (l : List S31) (hl : l.length ≤ 10000) : ∀ (d j k : Nat), j + d = l.length → d + 20 < k → bootchainlaw39_valid.l0 k l (j : Int) = some ((l.drop j).all validC)
  | d, j, 0, _, hk => by omega
  | 0, j, k + 1, hj, hk => by
    rw [bootchainlaw39_valid.l0, if_neg (by omega), List.drop_eq_nil_of_le (by omega)]
    rfl
  | d + 1, j, k + 1, hj, hk => by
    obtain ⟨c, hc⟩ : ∃ c, l[j]? = some c := ⟨_, List.getElem?_eq_getElem (by omega)⟩
    have hr : rd_T31 l (j : Int) = c := by
      unfold rd_T31
      rw [Int.toNat_natCast, List.getD_eq_getElem?_getD, hc]
      rfl
    have hd : l.drop j = c :: l.drop (j + 1) := by
      obtain ⟨h1, rfl⟩ := List.getElem?_eq_some_iff.1 hc
      exact List.drop_eq_getElem_cons h1
    rw [bootchainlaw39_valid.l0, if_pos (by omega), if_pos (by omega), hr, hd, List.all_cons]
    by_cases h10 : (c.f1.length : Int) > 10
    · have hv : validC c = false := by
        cases hh : validC c with
        | false => rfl
        | true =>
          have := (Ok.of hh).len3
          omega
      rw [if_pos h10, hv]
      rfl
    · rw [if_neg h10, script_valid_eq c k (by omega) (by omega), Option.bind_some]
      cases hv : validC c with
      | false => rfl
      | true =>
        rw [if_pos rfl, wrap_small _ (by omega) (by omega), Bool.true_and]
        exact law_valid_loop l hl d (j + 1) k (by omega) (by omega)
theorem law_valid_eq (l : List S31) (hl : l.length ≤ 10000) (k : Nat) (hk : l.length + 20 < k) : bootchainlaw39_valid.f k l = some (l.all validC) := by
  unfold bootchainlaw39_valid.f
  have := law_valid_loop l hl l.length 0 k (by omega) hk
  rw [List.drop_zero] at this
  exact this
theorem all_ok {l : List S31} (h : ∀ c ∈ l, Ok c) : l.all validC = true := List.all_eq_true.2 fun c hc => (h c hc).mk'
theorem text_f (l : List S31) (h : ∀ c ∈ l, Ok c) (hl : l.length ≤ 1000) : script_Text.f l = some (B (textOf l)) := by
  unfold script_Text.f
  rw [if_pos ⟨hl, all_ok h⟩]
  rfl
theorem parse_B (l : List S31) (h : ∀ c ∈ l, Ok c) (hl : l.length ≤ 1000) : script_Parse.f (B (textOf l)) = some (if 400 < l.length then ([], 2) else (l, 0)) := by
  have := text_len l (fun c hc => (h c hc).mk')
  rw [parse_f _ (by rw [B_size]; omega)]
  show some (parse (textOf l)) = _
  rw [parse_text l h]
end Go.Proofs.YtinmehodkeofaaaDoor.Q
