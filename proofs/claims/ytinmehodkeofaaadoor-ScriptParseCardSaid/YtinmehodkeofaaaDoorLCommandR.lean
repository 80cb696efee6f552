/- Plain law of the script chapter: the command that the reference reads out of words is the command that the package reads. -/
import Derived.Test.YtinmehodkeofaaaDoorLWords
namespace Go.Proofs.YtinmehodkeofaaaDoor.Q
open Go.RowKit Go.Proofs.YtinmehodkeofaaaDoorW.PrintWords
set_option linter.unusedVariables false
set_option linter.unusedSimpArgs false

abbrev Six := Int × List Int × Int × Int × Int × Bool
def Res (o : Option S31) (x : Six) : Prop := match o with
  | some c => x = (c.f0, c.f1, c.f2, c.f3, c.f4, true)
  | none => x.2.2.2.2.2 = false
theorem Res.some_ (c : S31) : Res (some c) (c.f0, c.f1, c.f2, c.f3, c.f4, true) := rfl
theorem Res.none_ (a : Int) (l : List Int) (b c d : Int) : Res none (a, l, b, c, d, false) := rfl

theorem numZ_some {w : List UInt8} {most v : Int} (h : num w most = some v) : numZ w most = v := by unfold numZ; rw [h]
theorem numZ_none {w : List UInt8} {most : Int} (h : num w most = none) : numZ w most = -1 := by unfold numZ; rw [h]

def fin (op : Int) (args : List Int) (c2 c3 : Int) (ws : List (List UInt8)) : Option S31 :=
  (noisePart ws).bind fun z => if z.2 = [] then some ⟨op, args, c2, c3, z.1⟩ else none
theorem noise_notR {w : List UInt8} {r : List (List UInt8)} (h : w ≠ noiseW) : noisePart (w :: r) = some (0, w :: r) := by
  unfold noisePart
  rw [if_neg (by rw [List.head?_cons]; exact fun e => h (Option.some.inj e))]
theorem noise_yesR (r : List (List UInt8)) : noisePart (noiseW :: r) = (num (r.getD 0 []) 65535).bind fun a => if 0 < a then some (a, r.drop 1) else none := by
  unfold noisePart
  rw [if_pos (show (noiseW :: r).head? = some noiseW from rfl)]
  rfl
theorem j5_law (k : Nat) (ws : List (List UInt8)) (op : Int) (args : List Int) (c2 c3 : Int) (b : Bool) (hk : 12 ≤ k) (hb : b = (decide (2 ≤ ws.length) && (ws.head? == some noiseW))) :
    ∃ x, bootchainref39_command.j5 k (ws.map B) b op args c2 c3 0 = some x ∧ Res (fin op args c2 c3 ws) x := by
  obtain ⟨k, rfl⟩ : ∃ m, k = m + 1 := ⟨k - 1, by omega⟩
  rw [bootchainref39_command.j5]
  cases b with
  | false =>
    rw [if_neg (by decide)]
    refine ⟨_, rfl, ?_⟩
    match ws, hb with
    | [], _ => exact rfl
    | [w], _ =>
      unfold fin
      by_cases h : w = noiseW
      · subst h
        rw [noise_yesR]
        exact rfl
      · rw [noise_notR h]
        exact rfl
    | w :: v :: r, hb =>
      have h : w ≠ noiseW := by
        rintro rfl
        exact absurd hb (by simp)
      unfold fin
      rw [noise_notR h]
      show Res none _
      show ((((w :: v :: r).map B).length : Int) == 0) = false
      rw [beq_eq_false_iff_ne]
      simp
      omega
  | true =>
    rw [if_pos rfl]
    match ws, hb with
    | [], hb => exact absurd hb (by simp)
    | [w], hb => exact absurd hb (by simp)
    | w :: v :: r, hb =>
      have h : w = noiseW := by simpa using hb
      subst h
      have hr : rdOf ByteArray.empty ((noiseW :: v :: r).map B) 1 = B v := rdB (noiseW :: v :: r) 1
      rw [if_pos (by simp; omega), hr, number_eq v 65535 k (by omega), Option.bind_some]
      unfold fin
      rw [noise_yesR]
      show ∃ x, _ ∧ Res (((num v 65535).bind fun a => if 0 < a then some (a, r) else none).bind _) x
      cases hn : num v 65535 with
      | none =>
        rw [numZ_none hn, if_pos (by decide)]
        exact ⟨_, rfl, rfl⟩
      | some a =>
        rw [numZ_some hn, Option.bind_some]
        by_cases ha : a ≤ 0
        · rw [if_pos ha, if_neg (by omega)]
          exact ⟨_, rfl, rfl⟩
        · rw [if_neg ha, if_pos (show (2 : Int) ≤ (((noiseW :: v :: r).map B).length : Int) by simp; omega), if_pos (show 0 < a by omega), Option.bind_some]
          refine ⟨_, rfl, ?_⟩
          show Res (if r = [] then some (⟨op, args, c2, c3, a⟩ : S31) else none) (op, args, c2, c3, a, ((r.map B).length : Int) == 0)
          by_cases hr : r = []
          · rw [if_pos hr, hr]
            exact rfl
          · rw [if_neg hr]
            show (((r.map B).length : Int) == 0) = false
            rw [beq_eq_false_iff_ne, List.length_map]
            have := List.length_pos_iff.2 hr
            omega
theorem j4_law (k : Nat) (ws : List (List UInt8)) (op : Int) (args : List Int) (c2 c3 : Int) (hk : 13 ≤ k) :
    ∃ x, bootchainref39_command.j4 k (ws.map B) op args c2 c3 0 = some x ∧ Res (fin op args c2 c3 ws) x := by
  obtain ⟨k, rfl⟩ : ∃ m, k = m + 1 := ⟨k - 1, by omega⟩
  rw [bootchainref39_command.j4, List.length_map]
  by_cases h : (ws.length : Int) ≥ 2
  · rw [if_pos h, if_pos (by omega)]
    refine j5_law k ws op args c2 c3 _ (by omega) ?_
    match ws, h with
    | [], h => exact absurd h (by decide)
    | w :: r, h =>
      have hr : rdOf ByteArray.empty ((w :: r).map B) 0 = B w := rdB (w :: r) 0
      rw [hr, B_toList, decide_eq_true (by omega), Bool.true_and, List.head?_cons]
      by_cases e : w = noiseW
      · rw [e]
        rfl
      · rw [show (w == ([110, 111, 105, 115, 101] : List UInt8)) = false from beq_eq_false_iff_ne.2 e, beq_eq_false_iff_ne.2 (fun h => e (Option.some.inj h))]
  · rw [if_neg h]
    refine j5_law k ws op args c2 c3 _ (by omega) ?_
    rw [decide_eq_false (by omega), Bool.false_and]
def tailP (op : Int) (args : List Int) (ws : List (List UInt8)) : Option S31 := (cutPart ws).bind fun y => fin op args y.1 y.2.1 y.2.2
theorem cut_notR {w : List UInt8} {r : List (List UInt8)} (h : w ≠ cutW) : cutPart (w :: r) = some (-1, 0, w :: r) := by
  unfold cutPart
  rw [if_neg (by rw [List.head?_cons]; exact fun e => h (Option.some.inj e))]
theorem cut_yesR (r : List (List UInt8)) : cutPart (cutW :: r) = (num (r.getD 0 []) 65535).bind fun a => (num (r.getD 1 []) 256).map fun b => (a, b, r.drop 2) := by
  unfold cutPart
  rw [if_pos (show (cutW :: r).head? = some cutW from rfl)]
  rfl
theorem num_empty (m : Int) : num [] m = none := num_nil m
theorem j3_law (k : Nat) (ws : List (List UInt8)) (op : Int) (args : List Int) (b : Bool) (hk : 14 ≤ k) (hb : b = (decide (3 ≤ ws.length) && (ws.head? == some cutW))) :
    ∃ x, bootchainref39_command.j3 k (ws.map B) b op args (-1) 0 0 = some x ∧ Res (tailP op args ws) x := by
  obtain ⟨k, rfl⟩ : ∃ m, k = m + 1 := ⟨k - 1, by omega⟩
  rw [bootchainref39_command.j3]
  cases b with
  | false =>
    rw [if_neg (by decide)]
    obtain ⟨x, hx, hr⟩ := j4_law k ws op args (-1) 0 (by omega)
    refine ⟨x, hx, ?_⟩
    unfold tailP
    match ws, hb, hr with
    | [], _, hr => exact hr
    | w :: r, hb, hr =>
      by_cases h : w = cutW
      · subst h
        have hc : cutPart (cutW :: r) = none := by
          rw [cut_yesR]
          match r, hb with
          | [], _ => rfl
          | [v], _ =>
            show ((num v 65535).bind fun a => (num [] 256).map fun b => (a, b, _)) = none
            rw [num_empty]
            cases num v 65535 <;> rfl
          | v :: u :: r, hb => exact absurd hb (by simp)
        have hf : fin op args (-1) 0 (cutW :: r) = none := by
          unfold fin
          rw [noise_notR (by decide)]
          rfl
        rw [hf] at hr
        rw [hc]
        exact hr
      · rw [cut_notR h]
        exact hr
  | true =>
    rw [if_pos rfl]
    match ws, hb with
    | [], hb => exact absurd hb (by simp)
    | [w], hb => exact absurd hb (by simp)
    | [w, v], hb => exact absurd hb (by simp)
    | w :: v :: u :: r, hb =>
      have h : w = cutW := by simpa using hb
      subst h
      have hr1 : rdOf ByteArray.empty ((cutW :: v :: u :: r).map B) 1 = B v := rdB (cutW :: v :: u :: r) 1
      have hr2 : rdOf ByteArray.empty ((cutW :: v :: u :: r).map B) 2 = B u := rdB (cutW :: v :: u :: r) 2
      have hl : (((cutW :: v :: u :: r).map B).length : Int) = (r.length : Int) + 3 := by simp; omega
      rw [hl, if_pos (by omega), hr1, number_eq v 65535 k (by omega), Option.bind_some, if_pos (by omega), hr2, number_eq u 256 k (by omega), Option.bind_some]
      unfold tailP
      rw [cut_yesR]
      show ∃ x, _ ∧ Res (((num v 65535).bind fun a => (num u 256).map fun b => (a, b, r)).bind _) x
      cases hn : num v 65535 with
      | none =>
        rw [numZ_none hn, if_pos (by decide)]
        exact ⟨_, rfl, rfl⟩
      | some a =>
        rw [numZ_some hn, Option.bind_some, if_neg (by have := (num_some hn).1; omega)]
        cases hn2 : num u 256 with
        | none =>
          rw [numZ_none hn2, if_pos (by decide)]
          exact ⟨_, rfl, rfl⟩
        | some e =>
          rw [numZ_some hn2, if_neg (by have := (num_some hn2).1; omega), if_pos (by omega)]
          exact j4_law k r op args a e (by omega)
theorem numsOf_short : ∀ (n : Nat) (ws : List (List UInt8)), ws.length < n → numsOf n ws = none
  | 0, ws, h => by omega
  | n + 1, [], _ => rfl
  | n + 1, w :: ws, h => by
    unfold numsOf
    rw [numsOf_short n ws (by simpa using h)]
    cases num w 65535 <;> rfl
theorem l1_law (ws : List (List UInt8)) (N : Nat) (hN : N + 1 ≤ ws.length) (hws : ws.length ≤ 100000) (op : Int) : ∀ (d j k : Nat) (args : List Int), j + d = N → 20 + d ≤ k → args.length ≤ j →
    ∃ x, bootchainref39_command.l1 k (ws.map B) (N : Int) ((j + 1 : Nat) : Int) op args (-1) 0 0 = some x ∧ Res ((numsOf d (ws.drop (j + 1))).bind fun more => tailP op (args ++ more) (ws.drop (1 + N))) x
  | d, j, 0, _, _, hk, _ => by omega
  | 0, j, k + 1, args, hj, hk, ha => by
    rw [bootchainref39_command.l1, if_neg (by omega)]
    have hw : wrap64 (1 + (N : Int)) = ((1 + N : Nat) : Int) := by unfold wrap64; omega
    rw [hw, if_pos (by omega), if_pos (by rw [List.length_map]; omega), Option.bind_some, Int.toNat_natCast, ← List.map_drop]
    show ∃ x, _ ∧ Res (tailP op (args ++ []) (ws.drop (1 + N))) x
    rw [List.append_nil]
    obtain ⟨ys, hy⟩ : ∃ ys, ys = ws.drop (1 + N) := ⟨_, rfl⟩
    rw [← hy, List.length_map]
    by_cases h3 : (ys.length : Int) ≥ 3
    · rw [if_pos h3, if_pos (by omega)]
      refine j3_law k ys op args _ (by omega) ?_
      match ys, h3 with
      | [], h => exact absurd h (by decide)
      | w :: r, h =>
        have hr : rdOf ByteArray.empty ((w :: r).map B) 0 = B w := rdB (w :: r) 0
        rw [hr, B_toList, decide_eq_true (by omega), Bool.true_and, List.head?_cons]
        by_cases e : w = cutW
        · rw [e]
          rfl
        · rw [show (w == ([99, 117, 116] : List UInt8)) = false from beq_eq_false_iff_ne.2 e, beq_eq_false_iff_ne.2 (fun h => e (Option.some.inj h))]
    · rw [if_neg h3]
      refine j3_law k ys op args _ (by omega) ?_
      rw [decide_eq_false (by omega), Bool.false_and]
  | d + 1, j, k + 1, args, hj, hk, ha => by
    obtain ⟨w, hw⟩ : ∃ w, ws[j + 1]? = some w := ⟨_, List.getElem?_eq_getElem (by omega)⟩
    have hd : ws.drop (j + 1) = w :: ws.drop (j + 1 + 1) := by
      obtain ⟨h1, rfl⟩ := List.getElem?_eq_some_iff.1 hw
      exact List.drop_eq_getElem_cons h1
    have hg : ws.getD (j + 1) [] = w := by rw [List.getD_eq_getElem?_getD, hw]; rfl
    rw [bootchainref39_command.l1, if_pos (by omega), if_pos (by omega), if_pos (by rw [List.length_map]; omega), rdB, hg, number_eq w 65535 k (by omega), Option.bind_some, hd]
    unfold numsOf
    cases hn : num w 65535 with
    | none =>
      rw [numZ_none hn, if_pos (by decide)]
      exact ⟨_, rfl, rfl⟩
    | some v =>
      rw [numZ_some hn, if_neg (by have := (num_some hn).1; omega), if_pos (by omega), w64 (j + 1) (by omega), Option.bind_some]
      obtain ⟨x, hx, hr⟩ := l1_law ws N hN hws op d (j + 1) k (args ++ [v]) (by omega) (by omega) (by simp; omega)
      refine ⟨x, hx, ?_⟩
      cases hm : numsOf d (ws.drop (j + 1 + 1)) with
      | none =>
        rw [hm] at hr
        exact hr
      | some more =>
        rw [hm, Option.bind_some, List.append_assoc] at hr
        exact hr
theorem name_at (n : Nat) (h0 : 1 ≤ n) (h1 : n ≤ 20) : bootchainref39_Name.f (n : Int) = some (B (nameAt n)) := by
  obtain rfl | rfl | rfl | rfl | rfl | rfl | rfl | rfl | rfl | rfl | rfl | rfl | rfl | rfl | rfl | rfl | rfl | rfl | rfl | rfl : n = 1 ∨ n = 2 ∨ n = 3 ∨ n = 4 ∨ n = 5 ∨ n = 6 ∨ n = 7 ∨ n = 8 ∨ n = 9 ∨ n = 10 ∨ n = 11 ∨ n = 12 ∨ n = 13 ∨ n = 14 ∨ n = 15 ∨ n = 16 ∨ n = 17 ∨ n = 18 ∨ n = 19 ∨ n = 20 := by omega
  all_goals rfl
theorem refArity_at (k : Nat) (op : Nat) (h : op ≤ 20) : bootchainref39_Arity.f (k + 2) (op : Int) = some (arity (op : Int)) := by
  obtain rfl | rfl | rfl | rfl | rfl | rfl | rfl | rfl | rfl | rfl | rfl | rfl | rfl | rfl | rfl | rfl | rfl | rfl | rfl | rfl | rfl : op = 0 ∨ op = 1 ∨ op = 2 ∨ op = 3 ∨ op = 4 ∨ op = 5 ∨ op = 6 ∨ op = 7 ∨ op = 8 ∨ op = 9 ∨ op = 10 ∨ op = 11 ∨ op = 12 ∨ op = 13 ∨ op = 14 ∨ op = 15 ∨ op = 16 ∨ op = 17 ∨ op = 18 ∨ op = 19 ∨ op = 20 := by omega
  all_goals rfl
theorem arity_nat (op : Nat) (h : op ≤ 20) : arity (op : Int) = if op = 0 then -1 else ((arityAt op).toNat : Int) := by
  obtain rfl | rfl | rfl | rfl | rfl | rfl | rfl | rfl | rfl | rfl | rfl | rfl | rfl | rfl | rfl | rfl | rfl | rfl | rfl | rfl | rfl : op = 0 ∨ op = 1 ∨ op = 2 ∨ op = 3 ∨ op = 4 ∨ op = 5 ∨ op = 6 ∨ op = 7 ∨ op = 8 ∨ op = 9 ∨ op = 10 ∨ op = 11 ∨ op = 12 ∨ op = 13 ∨ op = 14 ∨ op = 15 ∨ op = 16 ∨ op = 17 ∨ op = 18 ∨ op = 19 ∨ op = 20 := by omega
  all_goals rfl
theorem arityAt_le3 (i : Nat) (h : i ≤ 20) : (arityAt i).toNat ≤ 3 := by
  have := arityAt_le i h
  omega
theorem l0_law (w : List UInt8) (r : List (List UInt8)) (hws : (w :: r).length ≤ 100000) : ∀ (d m k : Nat), m + d = 20 → 30 + d ≤ k →
    ∃ x, bootchainref39_command.l0 k ((w :: r).map B) ((m + 1 : Nat) : Int) ((opGo w m : Nat) : Int) (-1) 0 0 = some x ∧ Res (cmdOf (w :: r)) x
  | d, m, 0, _, hk => by omega
  | 0, m, k + 1, hm, hk => by
    obtain rfl : m = 20 := by omega
    obtain ⟨k, rfl⟩ : ∃ q, k = q + 2 := ⟨k - 2, by omega⟩
    have hop := opOf_le w
    have hq : opGo w 20 = opOf w := rfl
    rw [bootchainref39_command.l0, if_neg (by decide), hq, refArity_at k _ hop, Option.bind_some, arity_nat _ hop]
    have hg : (w :: r).getD 0 [] = w := rfl
    unfold cmdOf
    rw [hg]
    by_cases h0 : opOf w = 0
    · rw [if_pos h0, if_pos h0, if_pos (by decide), bootchainref39_command.j1, if_pos rfl]
      exact ⟨_, rfl, rfl⟩
    · rw [if_neg h0, if_neg h0]
      have h3 := arityAt_le3 _ hop
      obtain ⟨N, hN⟩ : ∃ N, N = (arityAt (opOf w)).toNat := ⟨_, rfl⟩
      rw [← hN] at h3 ⊢
      rw [if_neg (show ¬ (N : Int) < 0 by omega), bootchainref39_command.j1]
      have hw : wrap64 (1 + (N : Int)) = ((1 + N : Nat) : Int) := by unfold wrap64; omega
      rw [hw, List.length_map]
      by_cases hl : ((w :: r).length : Int) < ((1 + N : Nat) : Int)
      · rw [decide_eq_true hl, if_pos rfl, numsOf_short N ((w :: r).drop 1) (show r.length < N by have h9 : ((r.length + 1 : Nat) : Int) < ((1 + N : Nat) : Int) := hl; omega)]
        exact ⟨_, rfl, rfl⟩
      · rw [decide_eq_false hl, if_neg (by decide)]
        obtain ⟨x, hx, hr⟩ := l1_law (w :: r) N (by omega) hws (opOf w : Int) N 0 (k + 1) [] (by omega) (by omega) (by simp)
        exact ⟨x, hx, hr⟩
  | d + 1, m, k + 1, hm, hk => by
    have hr0 : rdOf ByteArray.empty ((w :: r).map B) 0 = B w := rdB (w :: r) 0
    have hlen : (0 : Int) < (((w :: r).map B).length : Int) := by simp <;> omega
    obtain ⟨x, hx, hr⟩ := l0_law w r hws d (m + 1) k (by omega) (by omega)
    refine ⟨x, ?_, hr⟩
    rw [bootchainref39_command.l0, if_pos (by omega), name_at (m + 1) (by omega) (by omega), Option.bind_some, if_pos hlen, hr0, B_toList, B_toList, w64 (m + 1) (by omega)]
    unfold opGo at hx
    by_cases e : nameAt (m + 1) = w
    · rw [if_pos e] at hx ⊢
      exact hx
    · rw [if_neg e] at hx ⊢
      exact hx
theorem command_eq (w : List UInt8) (r : List (List UInt8)) (hws : (w :: r).length ≤ 100000) (k : Nat) (hk : 50 ≤ k) : ∃ x, bootchainref39_command.f k ((w :: r).map B) = some x ∧ Res (cmdOf (w :: r)) x :=
  l0_law w r hws 20 0 k rfl hk
end Go.Proofs.YtinmehodkeofaaaDoor.Q
