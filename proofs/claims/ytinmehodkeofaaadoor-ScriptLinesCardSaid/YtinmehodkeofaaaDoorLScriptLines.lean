/- Plain law: ScriptLines answers true at all texts. -/
import Derived.Test.YtinmehodkeofaaaDoorLCmds
import Derived.Test.YtinmehodkeofaaaDoorQx25
namespace Go.Proofs.YtinmehodkeofaaaDoor.Q
open Go.RowKit Go.Proofs.YtinmehodkeofaaaDoorW.PrintWords
set_option linter.unusedVariables false
set_option linter.unusedSimpArgs false

theorem lines_data (a b : ByteArray) : ((a ++ (⟨#[10]⟩ : ByteArray)) ++ b).data.toList = a.data.toList ++ 10 :: b.data.toList := by
  rw [ByteArray.data_append, ByteArray.data_append]
  simp
theorem lines_size (a b : ByteArray) : ((a ++ (⟨#[10]⟩ : ByteArray)) ++ b).size = a.size + 1 + b.size := by
  rw [ByteArray.size_append, ByteArray.size_append]
  rfl
theorem lines_cmds (a b : List UInt8) : cmdsOf ((linesOf (a ++ 10 :: b)).map wordsOf) = (cmdsOf ((linesOf a).map wordsOf)).bind fun p => (cmdsOf ((linesOf b).map wordsOf)).map fun q => p ++ q := by
  rw [linesOf_app, List.map_append, cmdsOf_append]
theorem parse_none {t : List UInt8} (h : cmdsOf ((linesOf t).map wordsOf) = none) : parse t = ([], 3) := by
  unfold parse
  rw [h]
theorem parse_some {t : List UInt8} {l : List S31} (h : cmdsOf ((linesOf t).map wordsOf) = some l) (hl : l.length ≤ 400) : parse t = (l, 0) := by
  unfold parse
  rw [h]
  exact if_neg (by omega)
/-- The last step. -/
theorem ln_bad (k : Nat) (l1 l2 l3 : List S31) (r1 r2 : Int) : bootchainlaw39_ScriptLines.j1 (k + 1) true l1 r1 l2 r2 l3 3 true = some true := by
  rw [bootchainlaw39_ScriptLines.j1, if_pos rfl, if_pos rfl]
  rfl
theorem pure_lines (a b : ByteArray) : bootchainlaw39_ScriptLines.f 1000 a b = some true := by
  obtain ⟨K, hK⟩ : ∃ K, K = 988 := ⟨_, rfl⟩
  rw [show 1000 = (K + 2) + 10 by omega]
  unfold bootchainlaw39_ScriptLines.f
  rw [sanity_true, Option.bind_some]
  by_cases ha : (a.size : Int) > 1500
  · rw [if_pos ha, bootchainlaw39_ScriptLines.j0, if_pos rfl]
  · rw [if_neg ha]
    by_cases hb : (b.size : Int) > 1500
    · rw [decide_eq_true hb, bootchainlaw39_ScriptLines.j0, if_pos rfl]
    · rw [decide_eq_false hb, bootchainlaw39_ScriptLines.j0, if_neg (by simp), parse_f a (by omega), Option.bind_some, parse_f b (by omega), Option.bind_some, if_pos (by omega),
        if_pos (by rw [ByteArray.size_append]; show a.size + 1 + b.size ≤ _; omega), parse_f _ (by rw [lines_size]; omega), Option.bind_some, lines_data]
      have hc := lines_cmds a.data.toList b.data.toList
      rcases parse_cases a.data.toList with ⟨h1, hp⟩ | ⟨l, h1, hok, hp⟩
      · rw [h1] at hc
        rw [hp, parse_none hc]
        show (if (3 : Int) = 3 then bootchainlaw39_ScriptLines.j1 _ true _ _ _ _ _ 3 true else _) = _
        rw [if_pos rfl]
        exact ln_bad _ _ _ _ _ _
      · have hne : (parse a.data.toList).2 ≠ 3 := by
          rcases hp with ⟨_, hp⟩ | ⟨_, hp⟩
          · rw [hp]
            show (2 : Int) ≠ 3
            decide
          · rw [hp]
            show (0 : Int) ≠ 3
            decide
        rw [if_neg hne]
        rcases parse_cases b.data.toList with ⟨h2, hq⟩ | ⟨m, h2, hok2, hq⟩
        · rw [h1, h2] at hc
          rw [hq, parse_none hc]
          exact ln_bad _ _ _ _ _ _
        · rw [h1, h2] at hc
          have hne2 : ((parse b.data.toList).2 == 3) = false := by
            rcases hq with ⟨_, hq⟩ | ⟨_, hq⟩ <;> rw [hq] <;> rfl
          rw [hne2, bootchainlaw39_ScriptLines.j1, if_neg (by simp)]
          by_cases g1 : ((parse a.data.toList).1.length : Int) > 100
          · rw [if_pos g1]
          · rw [if_neg g1]
            by_cases g2 : ((parse b.data.toList).1.length : Int) > 100
            · rw [if_pos g2]
            · rw [if_neg g2]
              rcases hp with ⟨_, hp⟩ | ⟨_, hp⟩
              · rw [hp]
                show (if (2 : Int) = 0 then _ else _) = _
                rw [if_neg (by decide)]
              · rcases hq with ⟨_, hq⟩ | ⟨_, hq⟩
                · rw [hp, hq]
                  show (if (0 : Int) = 0 then (if (2 : Int) = 0 then _ else _) else _) = _
                  rw [if_pos rfl, if_neg (by decide)]
                · rw [hp] at g1
                  rw [hq] at g2
                  have g1' : ¬ (l.length : Int) > 100 := g1
                  have g2' : ¬ (m.length : Int) > 100 := g2
                  have hall : ∀ c ∈ l ++ m, Ok c := by
                    intro c hc
                    rcases List.mem_append.1 hc with hc | hc
                    · exact hok c hc
                    · exact hok2 c hc
                  have hlen : (l ++ m).length ≤ 400 := by rw [List.length_append]; omega
                  have hr := parse_some (hc.trans rfl) hlen
                  rw [hp, hq, hr]
                  show (if (0 : Int) = 0 then (if (0 : Int) = 0 then (if true = true then (if (0 : Int) = 0 then ((some ([] : List S31)).bind fun y => _) else _) else _) else _) else _) = _
                  rw [if_pos rfl, if_pos rfl, if_pos rfl, if_pos rfl, Option.bind_some, if_pos (by simp only [List.length_nil]; show 0 + l.length < _; omega), Option.bind_some]
                  show (if l.length + m.length < _ then ((bootchainref39_Same.f _ (l ++ m) (l ++ m)).bind _) else _) = _
                  rw [if_pos (by omega), same_eq (l ++ m) hall (by omega) _ (by rw [List.length_append]; omega)]
                  rfl
end Go.Proofs.YtinmehodkeofaaaDoor.Q
