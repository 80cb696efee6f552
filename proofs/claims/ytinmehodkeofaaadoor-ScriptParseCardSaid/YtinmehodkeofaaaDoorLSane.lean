/- Plain law of the script chapter: the chapter's example holds. -/
import Derived.Test.YtinmehodkeofaaaDoorLFaults
namespace Go.Proofs.YtinmehodkeofaaaDoor.Q
open Go.RowKit Go.Proofs.YtinmehodkeofaaaDoorW.PrintWords
set_option linter.unusedVariables false
set_option linter.unusedSimpArgs false
set_option maxRecDepth 100000

def sane0 : S31 := ⟨1, [0], 17, 3, 5⟩
def sane1 : S31 := ⟨12, [1, 2, 0], -1, 0, 0⟩
theorem parse_sane : script_Parse.f (⟨#[98, 111, 111, 116, 32, 48, 32, 99, 117, 116, 32, 49, 55, 32, 51, 32, 110, 111, 105, 115, 101, 32, 53, 10, 10, 32, 113, 117, 111, 116, 101, 32, 49, 32, 50, 32, 48, 10]⟩ : ByteArray) = some ([sane0, sane1], 0) := by kernel_rfl
theorem parse_boot : script_Parse.f (⟨#[98, 111, 111, 116]⟩ : ByteArray) = some ([], 3) := by kernel_rfl
theorem itoa_small (u : Nat) (h : u < 10) : Lib.itoa (u : Int) = [UInt8.ofNat (48 + u)] := by rw [itoa_nat, Lib.decDigits_one h]
theorem text_sane : script_Text.f [sane0, sane1] = some ⟨#[98, 111, 111, 116, 32, 48, 32, 99, 117, 116, 32, 49, 55, 32, 51, 32, 110, 111, 105, 115, 101, 32, 53, 10, 113, 117, 111, 116, 101, 32, 49, 32, 50, 32, 48, 10]⟩ := by
  unfold script_Text.f
  rw [if_pos ⟨by decide, by kernel_rfl⟩]
  have h0 : Lib.itoa 0 = [48] := itoa_small 0 (by decide)
  have h1 : Lib.itoa 1 = [49] := itoa_small 1 (by decide)
  have h2 : Lib.itoa 2 = [50] := itoa_small 2 (by decide)
  have h3 : Lib.itoa 3 = [51] := itoa_small 3 (by decide)
  have h5 : Lib.itoa 5 = [53] := itoa_small 5 (by decide)
  have h17 : Lib.itoa 17 = [49, 55] := by
    rw [show (17 : Int) = ((17 : Nat) : Int) from rfl, itoa_nat, Lib.decDigits, dif_neg (by decide), Lib.decDigits_one (by decide)]
    rfl
  have e : textOf [sane0, sane1] = [98, 111, 111, 116, 32, 48, 32, 99, 117, 116, 32, 49, 55, 32, 51, 32, 110, 111, 105, 115, 101, 32, 53, 10, 113, 117, 111, 116, 101, 32, 49, 32, 50, 32, 48, 10] := by
    simp only [textOf, List.flatMap_cons, List.flatMap_nil, lineOf, cmdWords, sane0, sane1, List.map_cons, List.map_nil, h0, h1, h2, h3, h5, h17]
    rfl
  rw [e]
theorem sanity_true (k : Nat) : bootchainlaw39_sanity.f (k + 10) = some true := by
  unfold bootchainlaw39_sanity.f
  rw [parse_sane, parse_boot, Option.bind_some, Option.bind_some]
  have hF : script_Faults.f ((rd_T31 [sane0, sane1] 0).f0) ((rd_T31 [sane0, sane1] 0).f1) ((rd_T31 [sane0, sane1] 0).f2) ((rd_T31 [sane0, sane1] 0).f3) ((rd_T31 [sane0, sane1] 0).f4) 19 = some (faultsL sane0 19) := faults_eq sane0 19 (by decide)
  have hV : script_Valid.f (k + 10) ((rd_T31 [sane0, sane1] 0).f0) ((rd_T31 [sane0, sane1] 0).f1) ((rd_T31 [sane0, sane1] 0).f2) ((rd_T31 [sane0, sane1] 0).f3) ((rd_T31 [sane0, sane1] 0).f4) = some true := (script_valid_eq sane0 (k + 10) (by decide) (by show 3 ≤ k + 10; omega)).trans (by kernel_rfl)
  rw [hF, text_sane, hV, Option.bind_some, Option.bind_some]
  refine Eq.trans ?_ (Eq.refl (some true))
  kernel_rfl
end Go.Proofs.YtinmehodkeofaaaDoor.Q
