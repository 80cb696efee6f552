-- Written by a program of this session (wip/extprint.py), which runs the kit's print over contracts of our own.
import Derived.Test.YtinmehodkeofaaaDoorQx0
import Derived.Test.YtinmehodkeofaaaDoorQx1
import Derived.Test.YtinmehodkeofaaaDoorQx3
import Derived.Test.YtinmehodkeofaaaDoorEArity
import Derived.Test.YtinmehodkeofaaaDoorEFaults
import Derived.Test.YtinmehodkeofaaaDoorEParse
import Derived.Test.YtinmehodkeofaaaDoorETabs
import Derived.Test.YtinmehodkeofaaaDoorEText
namespace Go.Proofs.YtinmehodkeofaaaDoor.Q
open Go.RowKit Go.Proofs.YtinmehodkeofaaaDoorW.PrintWords Go.Proofs.YtinmehodkeofaaaDoorW.PrintLast Go.Proofs.YtinmehodkeofaaaDoorW.PrintMore
attribute [local go_sem] max2_int min2_int max_two min_two max_three min_three max_four min_four   -- for this text's walks alone
set_option linter.unusedVariables false
set_option linter.unusedSimpArgs false

attribute [local go_sem high] eqA42
/-! ### bootchainlaw39_sanity: function 9 -/
def bootchainlaw39_sanity.f (k : Nat)  : Option (Bool) := (script_Parse.f (⟨#[98, 111, 111, 116, 32, 48, 32, 99, 117, 116, 32, 49, 55, 32, 51, 32, 110, 111, 105, 115, 101, 32, 53, 10, 10, 32, 113, 117, 111, 116, 101, 32, 49, 32, 50, 32, 48, 10]⟩ : ByteArray)).bind fun bt109 => ((script_Parse.f (⟨#[98, 111, 111, 116]⟩ : ByteArray)).bind fun bt113 => (if (bt109.1.length : Int) = 2 then (if 0 < (bt109.1.length : Int) then ((script_Faults.f ((rd_T31 bt109.1 0).f0) ((rd_T31 bt109.1 0).f1) ((rd_T31 bt109.1 0).f2) ((rd_T31 bt109.1 0).f3) ((rd_T31 bt109.1 0).f4) 19).bind fun t118 => (if (t118.length : Int) = 19 then (if bt109.2 = 0 then (if bt113.2 = 3 then ((script_Text.f bt109.1).bind fun t121 => (if t121.toList = ([98, 111, 111, 116, 32, 48, 32, 99, 117, 116, 32, 49, 55, 32, 51, 32, 110, 111, 105, 115, 101, 32, 53, 10, 113, 117, 111, 116, 101, 32, 49, 32, 50, 32, 48, 10] : List UInt8) then (if 1 < (bt109.1.length : Int) then (if ((rd_T31 bt109.1 1).f2) = (-1) then (if 0 < (t118.length : Int) then (if (!((rd_T42 t118 0).f0) && (((rd_T42 t118 0).f1) == 0 && (((rd_T42 t118 0).f2)))) = true then (if 1 < (t118.length : Int) then (if (!((rd_T42 t118 1).f0) && (((rd_T42 t118 1).f1) == 0 && (!((rd_T42 t118 1).f2)))) = true then (if 2 < (t118.length : Int) then (if (rd_T42 t118 2).f2 = true then (if 16 < (t118.length : Int) then (if (rd_T42 t118 16).f2 = true then (if 17 < (t118.length : Int) then (if (((rd_T42 t118 17).f0) && (((rd_T42 t118 17).f1) == 3 && (!((rd_T42 t118 17).f2)))) = true then (if 18 < (t118.length : Int) then (if (rd_T42 t118 18).f2 = true then ((script_Arity.f 12).bind fun t129 => (if t129 = 3 then ((script_Arity.f 21).bind fun t130 => (if t130 = (-1) then ((script_Valid.f k ((rd_T31 bt109.1 0).f0) ((rd_T31 bt109.1 0).f1) ((rd_T31 bt109.1 0).f2) ((rd_T31 bt109.1 0).f3) ((rd_T31 bt109.1 0).f4)).bind fun t132 => (some t132)) else (some false))) else (some false))) else (some false)) else (none)) else (some false)) else (none)) else (some false)) else (none)) else (some false)) else (none)) else (some false)) else (none)) else (some false)) else (none)) else (some false)) else (none)) else (some false))) else (some false)) else (some false)) else (some false))) else (none)) else (some false)))
theorem bootchainlaw39_sanity.mono : ∀ k, LeO (bootchainlaw39_sanity.f k ) (bootchainlaw39_sanity.f (k + 1) ) := by
  intro  k
  unfold bootchainlaw39_sanity.f
  repeat' first
      | (with_reducible exact script_Valid.mono _ _ _ _ _ _)
      | (with_reducible exact LeO.refl _)
      | (with_reducible exact LeO.none _)
      | (with_reducible refine LeO.ite ?_ ?_)
      | (with_reducible refine LeO.bind ?_ (fun _ => ?_))
      | exact script_Valid.mono _ _ _ _ _ _
      | exact LeO.none _
      | refine LeO.ite ?_ ?_
      | refine LeO.bind ?_ (fun _ => ?_)
end Go.Proofs.YtinmehodkeofaaaDoor.Q
