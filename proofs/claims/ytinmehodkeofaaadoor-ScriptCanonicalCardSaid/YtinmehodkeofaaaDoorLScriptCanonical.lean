/- Plain law: ScriptCanonical answers true at every text. -/
import Derived.Test.YtinmehodkeofaaaDoorLCmds
import Derived.Test.YtinmehodkeofaaaDoorQx23
namespace Go.Proofs.YtinmehodkeofaaaDoor.Q
open Go.RowKit Go.Proofs.YtinmehodkeofaaaDoorW.PrintWords
set_option linter.unusedVariables false
set_option linter.unusedSimpArgs false

theorem pure_canonical (a : ByteArray) : bootchainlaw39_ScriptCanonical.f 1000 a = some true := by
  obtain ⟨K, hK⟩ : ∃ K, K = 990 := ⟨_, rfl⟩
  rw [show 1000 = K + 10 by omega]
  unfold bootchainlaw39_ScriptCanonical.f
  rw [sanity_true, Option.bind_some]
  by_cases hs : (a.size : Int) > 3000
  · rw [if_pos hs]
  · rw [if_neg hs, parse_f a (by omega), Option.bind_some]
    rcases parse_cases a.data.toList with ⟨_, hp⟩ | ⟨l, _, hok, ⟨_, hp⟩ | ⟨hl, hp⟩⟩
    · rw [hp]
      show (if (3 : Int) = 0 then _ else _) = _
      rw [if_neg (by decide), if_pos rfl]
      rfl
    · rw [hp]
      show (if (2 : Int) = 0 then _ else _) = _
      rw [if_neg (by decide), if_pos rfl]
      rfl
    · have hB := parse_B l hok (by omega)
      rw [if_neg (show ¬ 400 < l.length by omega)] at hB
      rw [hp]
      show (if (0 : Int) = 0 then ((script_Text.f l).bind _) else _) = _
      rw [if_pos rfl, text_f l hok (by omega), Option.bind_some, hB, Option.bind_some, if_pos rfl, law_valid_eq l (by omega) _ (by omega), Option.bind_some, all_ok hok, if_pos rfl]
      show (if (0 : Int) = 0 then _ else _) = _
      rw [if_pos rfl]
      show ((bootchainref39_Same.f (K + 10) l l).bind _) = _
      rw [same_eq l hok (by omega) _ (by omega)]
      rfl
end Go.Proofs.YtinmehodkeofaaaDoor.Q
