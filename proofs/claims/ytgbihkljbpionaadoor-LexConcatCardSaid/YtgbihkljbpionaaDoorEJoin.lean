/- strings.Join, in the form that the printed texts ask: the elements read as a list, the whole result at most 2^47 bytes. -/
import Derived.Test.YtgbihkljbpionaaDoorQx0
import Derived.Test.YtgbihkljbpionaaDoorEShelf
namespace Go.Proofs.YtgbihkljbpionaaDoor.Q
open Go.RowKit Go.Proofs.YtgbihkljbpionaaDoorW.PrintWords Go.Proofs.YtgbihkljbpionaaDoorW.PrintLast Go.Proofs.YtgbihkljbpionaaDoorW.PrintMore

def strings_Join.f (l0 : List ByteArray) (a1 : ByteArray) : Option ByteArray :=
  if (Lib.join (l0.map (·.data.toList)) a1.data.toList).length ≤ 140737488355328 ∧ l0.length ≤ 140737488355328 then some ⟨(Lib.join (l0.map (·.data.toList)) a1.data.toList).toArray⟩ else none

theorem strings_Join.calls (A0 : Option Addr) (c0 : Nat) (l0 : List (ByteArray)) (a1 : ByteArray) (r : ByteArray) (w : World) (hr0 : Kd.C Kd.string w A0 l0.length l0) (hc0 : l0.length ≤ c0) (h : strings_Join.f l0 a1 = some r) :
    Calls Tryd.prog 30 #[.slice A0 l0.length c0, .string a1] w fun e w' => e = .returned (.string r) ∧ Below w.heap.size w w' := by
  unfold strings_Join.f at h
  by_cases hh : (Lib.join (l0.map (·.data.toList)) a1.data.toList).length ≤ 140737488355328 ∧ l0.length ≤ 140737488355328
  · rw [if_pos hh] at h
    obtain rfl := Option.some.inj h
    cases l0 with
    | nil => exact (Tryd.strings_Join_none A0 c0 a1 w).mono fun e w' ⟨he, hw⟩ => ⟨he, hw ▸ Below.refl _ _⟩
    | cons x t =>
      obtain ⟨ad, rfl, hc⟩ := hr0.2.2 (by simp)
      have cell : ∀ (j : Nat) (y : ByteArray), (x :: t)[j]? = some y → w.cell? (ad.add (j * 1 + 0)) = some (.string y) := by
        intro j y hj
        obtain ⟨c, _, hk, hcell⟩ := hc j y hj
        obtain rfl : c = [.string y] := hk
        exact hcell 0 _ rfl
      obtain ⟨bk, o, sp⟩ := ad
      have h0 := cell 0 x rfl
      obtain rfl : sp = none := by
        cases sp with
        | none => rfl
        | some k =>
          simp only [Addr.add, Nat.zero_mul, Nat.add_zero, if_true, World.cell?] at h0
          split at h0 <;> simp at h0
      have cell2 : ∀ (j : Nat) (y : ByteArray), (x :: t)[j]? = some y → w.cell? ⟨bk, o + j, none⟩ = some (.string y) := by
        intro j y hj
        have hj2 := cell j y hj
        have e : (⟨bk, o, none⟩ : Addr).add (j * 1 + 0) = ⟨bk, o + j, none⟩ := by
          unfold Addr.add
          split
          · rename_i hz
            obtain rfl : j = 0 := by omega
            rfl
          · simp
        rw [e] at hj2
        exact hj2
      have hbk : bk < w.heap.size := World.block_lt_of_cell? w _ (cell2 0 x rfl)
      exact Tryd.strings_Join bk o c0 (x :: t) a1 w cell2 hbk hh.2 hc0 hh.1
  · rw [if_neg hh] at h
    cases h
end Go.Proofs.YtgbihkljbpionaaDoor.Q
