/- Plain laws of the script chapter: what validity gives. -/
import Derived.Test.YtinmehodkeofaaaDoorELine
import Derived.Test.YtinmehodkeofaaaDoorLBase
namespace Go.Proofs.YtinmehodkeofaaaDoor.Q
open Go.RowKit Go.Proofs.YtinmehodkeofaaaDoorW.PrintWords
set_option linter.unusedVariables false
set_option linter.unusedSimpArgs false

def B (l : List UInt8) : ByteArray := ⟨l.toArray⟩
theorem B_app (l m : List UInt8) : B l ++ B m = B (l ++ m) := by
  apply ByteArray.ext
  rw [ByteArray.data_append]
  simp [B]
theorem B_size (l : List UInt8) : (B l).size = l.length := by simp [B, ByteArray.size]
theorem itoa_len5 (v : Int) (h0 : 0 ≤ v) (h1 : v ≤ 99999) : (Lib.itoa v).length ≤ 5 := (num_some (num_itoa v 99999 h0 h1 h1)).2.2.2.2.2
theorem arity_bounds {op : Int} (h : 0 ≤ arity op) : 1 ≤ op ∧ op ≤ 20 := by
  unfold arity at h
  split at h
  · omega
  · omega
theorem name_len10 (op : Int) (h0 : 1 ≤ op) (h1 : op ≤ 20) : (nameAt op.toNat).length ≤ 10 := by
  obtain rfl | rfl | rfl | rfl | rfl | rfl | rfl | rfl | rfl | rfl | rfl | rfl | rfl | rfl | rfl | rfl | rfl | rfl | rfl | rfl : op = 1 ∨ op = 2 ∨ op = 3 ∨ op = 4 ∨ op = 5 ∨ op = 6 ∨ op = 7 ∨ op = 8 ∨ op = 9 ∨ op = 10 ∨ op = 11 ∨ op = 12 ∨ op = 13 ∨ op = 14 ∨ op = 15 ∨ op = 16 ∨ op = 17 ∨ op = 18 ∨ op = 19 ∨ op = 20 := by omega
  all_goals decide
theorem arity_le (op : Int) (h0 : 1 ≤ op) (h1 : op ≤ 20) : arity op ≤ 3 := by
  obtain rfl | rfl | rfl | rfl | rfl | rfl | rfl | rfl | rfl | rfl | rfl | rfl | rfl | rfl | rfl | rfl | rfl | rfl | rfl | rfl : op = 1 ∨ op = 2 ∨ op = 3 ∨ op = 4 ∨ op = 5 ∨ op = 6 ∨ op = 7 ∨ op = 8 ∨ op = 9 ∨ op = 10 ∨ op = 11 ∨ op = 12 ∨ op = 13 ∨ op = 14 ∨ op = 15 ∨ op = 16 ∨ op = 17 ∨ op = 18 ∨ op = 19 ∨ op = 20 := by omega
  all_goals decide
structure Ok (c : S31) : Prop where
  op0 : 1 ≤ c.f0
  op1 : c.f0 ≤ 20
  len : (c.f1.length : Int) = arity c.f0
  args : ∀ v ∈ c.f1, 0 ≤ v ∧ v ≤ 65535
  cut0 : -1 ≤ c.f2
  cut1 : c.f2 ≤ 65535
  noise0 : 0 ≤ c.f4
  noise1 : c.f4 ≤ 65535
  bytes0 : 0 ≤ c.f3
  bytes1 : c.f3 ≤ 256
  both : 0 ≤ c.f2 ∨ c.f3 = 0
theorem Ok.of {c : S31} (h : validC c = true) : Ok c := by
  unfold validC at h
  simp only [Bool.and_eq_true, Bool.or_eq_true, decide_eq_true_eq, beq_iff_eq, List.all_eq_true] at h
  obtain ⟨⟨⟨⟨⟨⟨⟨⟨⟨h1, h2⟩, h3⟩, h4⟩, h5⟩, h6⟩, h7⟩, h8⟩, h9⟩, h10⟩ := h
  exact ⟨(arity_bounds h1).1, (arity_bounds h1).2, h2, h3, h4, h5, h6, h7, h8, h9, h10⟩
theorem Ok.mk' {c : S31} (h : Ok c) : validC c = true := by
  have ha : 0 ≤ arity c.f0 := by
    rw [← h.len]
    omega
  unfold validC
  simp only [Bool.and_eq_true, Bool.or_eq_true, decide_eq_true_eq, beq_iff_eq, List.all_eq_true]
  exact ⟨⟨⟨⟨⟨⟨⟨⟨⟨ha, h.len⟩, h.args⟩, h.cut0⟩, h.cut1⟩, h.noise0⟩, h.noise1⟩, h.bytes0⟩, h.bytes1⟩, h.both⟩
theorem Ok.len3 {c : S31} (h : Ok c) : c.f1.length ≤ 3 := by
  have := h.len
  have := arity_le c.f0 h.op0 h.op1
  omega
end Go.Proofs.YtinmehodkeofaaaDoor.Q
