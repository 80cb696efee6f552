/- Plain law: ScriptParse answers true at every text: the reference reads what the package reads. -/
import Derived.Test.YtinmehodkeofaaaDoorLRead
import Derived.Test.YtinmehodkeofaaaDoorLCommandR
import Derived.Test.YtinmehodkeofaaaDoorQx13
namespace Go.Proofs.YtinmehodkeofaaaDoor.Q
open Go.RowKit Go.Proofs.YtinmehodkeofaaaDoorW.PrintWords
set_option linter.unusedVariables false
set_option linter.unusedSimpArgs false

/-- What comes out, some commands having been read, the lines P being left. -/
def outOf (cmds : List S31) (P : List (List (List UInt8))) : List S31 × Int :=
  match cmdsOf P with
  | none => ([], 3)
  | some l => if 400 < (cmds ++ l).length then ([], 2) else (cmds ++ l, 0)
theorem outOf_nil (cmds : List S31) : outOf cmds [] = if 400 < cmds.length then ([], 2) else (cmds, 0) := by
  unfold outOf
  show (if 400 < (cmds ++ []).length then _ else _) = _
  rw [List.append_nil]
theorem outOf_skip (cmds : List S31) (P : List (List (List UInt8))) : outOf cmds ([] :: P) = outOf cmds P := by
  unfold outOf
  rw [show cmdsOf ([] :: P) = cmdsOf P from rfl]
theorem outOf_bad (cmds : List S31) (w : List UInt8) (r : List (List UInt8)) (P : List (List (List UInt8))) (h : cmdOf (w :: r) = none) : outOf cmds ((w :: r) :: P) = ([], 3) := by
  unfold outOf
  rw [show cmdsOf ((w :: r) :: P) = (cmdOf (w :: r)).bind fun c => (cmdsOf P).map fun l => c :: l from rfl, h]
  rfl
theorem outOf_good (cmds : List S31) (w : List UInt8) (r : List (List UInt8)) (P : List (List (List UInt8))) (c : S31) (h : cmdOf (w :: r) = some c) : outOf cmds ((w :: r) :: P) = outOf (cmds ++ [c]) P := by
  unfold outOf
  rw [show cmdsOf ((w :: r) :: P) = (cmdOf (w :: r)).bind fun c => (cmdsOf P).map fun l => c :: l from rfl, h, Option.bind_some]
  cases cmdsOf P with
  | none => rfl
  | some l =>
    show (if 400 < (cmds ++ c :: l).length then _ else _) = (if 400 < ((cmds ++ [c]) ++ l).length then _ else _)
    rw [List.append_assoc]
    rfl
/-- One line. -/
theorem line_law (t : List UInt8) (k : Nat) (cmds : List S31) (cur : List UInt8) (i : Nat) (hc : cur.length ≤ 10000) (hk : 30000 ≤ k) (hi : i < 1000000) (hcm : cmds.length ≤ 1000000) (P : List (List (List UInt8)))
    (rest : ∀ cmds' : List S31, cmds'.length ≤ cmds.length + 1 → bootchainref39_Parse.l0 k (B t) cmds' (B []) ((i + 1 : Nat) : Int) = some (outOf cmds' P)) :
    bootchainref39_Parse.j1 (k + 1) (B t) cmds (B cur) (i : Int) false = some (outOf cmds (wordsOf cur :: P)) := by
  have hlen := words_len cur
  rw [bootchainref39_Parse.j1, if_neg (by decide), words_eq cur (by omega) k (by omega), Option.bind_some, w64 i (by omega), B_empty, List.length_map]
  cases hw : wordsOf cur with
  | nil =>
    rw [if_pos (by rfl), outOf_skip]
    exact rest cmds (by omega)
  | cons w r =>
    rw [hw] at hlen
    obtain ⟨x, hx, hr⟩ := command_eq w r (by omega) k (by omega)
    rw [if_neg (by rw [List.length_cons]; omega), hx, Option.bind_some]
    cases hcd : cmdOf (w :: r) with
    | none =>
      rw [hcd] at hr
      have hr' : x.2.2.2.2.2 = false := hr
      rw [hr', if_neg (by decide), outOf_bad cmds w r P hcd]
    | some c =>
      rw [hcd] at hr
      have hr' : x = (c.f0, c.f1, c.f2, c.f3, c.f4, true) := hr
      subst hr'
      rw [outOf_good cmds w r P c hcd]
      show (if true = true then (if cmds.length < 2513169434916 then bootchainref39_Parse.l0 k (B t) (cmds ++ [c]) (B []) ((i + 1 : Nat) : Int) else none) else _) = _
      rw [if_pos rfl, if_pos (by omega)]
      exact rest (cmds ++ [c]) (by simp)
theorem parse_loop (t : List UInt8) (ht : t.length ≤ 10000) : ∀ (d i k : Nat) (cmds : List S31) (cur : List UInt8), i + d = t.length → 2 * d + 30010 ≤ k → cmds.length ≤ i → cur.length ≤ i →
    bootchainref39_Parse.l0 k (B t) cmds (B cur) (i : Int) = some (outOf cmds ((linesGo cur (t.drop i)).map wordsOf))
  | d, i, 0, _, _, _, hk, _, _ => by omega
  | d, i, 1, _, _, _, hk, _, _ => by omega
  | 0, i, k + 2, cmds, cur, hi, hk, hcm, hcu => by
    have hz : (B t).size = t.length := B_size t
    rw [bootchainref39_Parse.l0, if_pos (by rw [hz]; omega), if_neg (by rw [hz]; omega), List.drop_eq_nil_of_le (by omega)]
    refine line_law t k cmds cur i (by omega) (by omega) (by omega) (by omega) [] (fun cmds' h => ?_)
    obtain ⟨k, rfl⟩ : ∃ m, k = m + 1 := ⟨k - 1, by omega⟩
    rw [bootchainref39_Parse.l0, if_neg (by rw [hz]; omega), outOf_nil]
    by_cases h4 : 400 < cmds'.length
    · rw [if_pos (by omega), if_pos h4]
    · rw [if_neg (by omega), if_neg h4]
  | d + 1, i, k + 2, cmds, cur, hi, hk, hcm, hcu => by
    have hz : (B t).size = t.length := B_size t
    obtain ⟨c, hcc⟩ : ∃ c, t[i]? = some c := ⟨_, List.getElem?_eq_getElem (by omega)⟩
    have hm : mn (i : Int) (wrap64 (((B t).size : Int) - 1)) = (i : Int) := by
      rw [hz]
      have : wrap64 ((t.length : Int) - 1) = (t.length : Int) - 1 := by unfold wrap64; omega
      rw [this]
      unfold mn
      split <;> omega
    have hd : t.drop i = c :: t.drop (i + 1) := by
      obtain ⟨h1, rfl⟩ := List.getElem?_eq_some_iff.1 hcc
      exact List.drop_eq_getElem_cons h1
    have ih := fun (a : List S31) (u : List UInt8) h1 h2 => parse_loop t ht d (i + 1) k a u (by omega) (by omega) h1 h2
    rw [bootchainref39_Parse.l0, if_pos (by rw [hz]; omega), if_pos (by rw [hz]; omega), hm, if_pos (by omega), if_pos (by rw [hz]; omega), bt_B t i c hcc, hd, linesGo]
    by_cases h10 : c = 10
    · have hb : ((c.toNat : Int) != 10) = false := by rw [h10]; rfl
      rw [hb, if_pos h10]
      exact line_law t k cmds cur i (by omega) (by omega) (by omega) (by omega) _ (fun cmds' h => ih cmds' [] (by omega) (by simp))
    · have hb : ((c.toNat : Int) != 10) = true := by
        rw [bne_iff_ne]
        intro e
        exact h10 (UInt8.toNat_inj.1 (by show c.toNat = 10; omega))
      rw [hb, if_neg h10, bootchainref39_Parse.j1, if_pos rfl, w64 i (by omega), if_pos (by omega), if_pos (by omega), if_pos (by rw [hz]; omega), B_extract t i c hcc, if_pos (by rw [B_size, B_size]; simp; omega), B_app]
      exact ih cmds (cur ++ [c]) (by omega) (by simp; omega)
theorem ref_parse_eq (t : List UInt8) (ht : t.length ≤ 10000) (k : Nat) (hk : 2 * t.length + 30010 ≤ k) : bootchainref39_Parse.f k (B t) = some (parse t) := by
  have key : bootchainref39_Parse.l0 k (B t) [] (B []) ((0 : Nat) : Int) = some (outOf [] ((linesGo [] (t.drop 0)).map wordsOf)) := parse_loop t ht t.length 0 k [] [] (by omega) hk (by simp) (by simp)
  refine key.trans ?_
  rfl
theorem pure_parse (a : ByteArray) : ∃ k, bootchainlaw39_ScriptParse.f k a = some true := by
  obtain ⟨K, hK⟩ : ∃ K, K = 60000 := ⟨_, rfl⟩
  refine ⟨K + 10, ?_⟩
  unfold bootchainlaw39_ScriptParse.f
  rw [sanity_true, Option.bind_some]
  by_cases hs : (a.size : Int) > 3000
  · rw [if_pos hs]
  · have hB : a = B a.data.toList := by
      apply ByteArray.ext
      simp [B]
    have hl : a.data.toList.length = a.size := Array.length_toList
    have hr : bootchainref39_Parse.f (K + 10) a = some (parse a.data.toList) := by
      have := ref_parse_eq a.data.toList (by omega) (K + 10) (by omega)
      rw [← hB] at this
      exact this
    rw [if_neg hs, parse_f a (by omega), Option.bind_some, hr, Option.bind_some, if_pos rfl]
    have hsame : bootchainref39_Same.f (K + 10) (parse a.data.toList).1 (parse a.data.toList).1 = some true := by
      rcases parse_cases a.data.toList with ⟨_, hp⟩ | ⟨l, _, hok, ⟨_, hp⟩ | ⟨hl, hp⟩⟩
      · rw [hp]
        exact same_eq [] (fun c hc => by cases hc) (Nat.zero_le _) _ (by show 0 + 10 < K + 10; omega)
      · rw [hp]
        exact same_eq [] (fun c hc => by cases hc) (Nat.zero_le _) _ (by show 0 + 10 < K + 10; omega)
      · rw [hp]
        exact same_eq l hok (by omega) _ (by omega)
    rw [hsame, Option.bind_some, if_pos rfl, beq_self_eq_true]
end Go.Proofs.YtinmehodkeofaaaDoor.Q
