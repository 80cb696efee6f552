/- Plain laws of the script chapter: what is read is valid; a list is the same as itself. -/
import Derived.Test.YtinmehodkeofaaaDoorLText
import Derived.Test.YtinmehodkeofaaaDoorLSane
import Derived.Test.YtinmehodkeofaaaDoorQx12
namespace Go.Proofs.YtinmehodkeofaaaDoor.Q
open Go.RowKit Go.Proofs.YtinmehodkeofaaaDoorW.PrintWords
set_option linter.unusedVariables false
set_option linter.unusedSimpArgs false

/-! ### What is read is valid -/
theorem numsOf_ok : ∀ (n : Nat) (ws : List (List UInt8)) (l : List Int), numsOf n ws = some l → l.length = n ∧ ∀ v ∈ l, 0 ≤ v ∧ v ≤ 65535
  | 0, ws, l, h => by
    have : l = [] := by simpa [numsOf] using h.symm
    subst this
    exact ⟨rfl, fun v hv => by cases hv⟩
  | n + 1, [], l, h => by simp [numsOf] at h
  | n + 1, w :: ws, l, h => by
    unfold numsOf at h
    obtain ⟨v, hv, h⟩ := Option.bind_eq_some_iff.1 h
    obtain ⟨x, hx, rfl⟩ := Option.map_eq_some_iff.1 h
    have ih := numsOf_ok n ws x hx
    have hn := num_some hv
    refine ⟨by rw [List.length_cons, ih.1], fun u hu => ?_⟩
    rcases List.mem_cons.1 hu with rfl | hu
    · exact ⟨hn.1, hn.2.1⟩
    · exact ih.2 u hu
theorem arity_at (op : Nat) (h0 : 1 ≤ op) (h1 : op ≤ 20) : arity (op : Int) = arityAt op := by
  unfold arity
  rw [if_neg (by omega), Int.toNat_natCast]
theorem cmdOf_ok {ws : List (List UInt8)} {c : S31} (h : cmdOf ws = some c) : Ok c := by
  unfold cmdOf at h
  split at h
  · cases h
  · rename_i h0
    obtain ⟨args, ha, h⟩ := Option.bind_eq_some_iff.1 h
    obtain ⟨y, hy, h⟩ := Option.bind_eq_some_iff.1 h
    obtain ⟨z, hz, h⟩ := Option.bind_eq_some_iff.1 h
    split at h
    · obtain rfl := Option.some.inj h
      have hop := opOf_le (ws.getD 0 [])
      have hn := numsOf_ok _ _ _ ha
      have hat := arityAt_le _ hop
      have hcut : -1 ≤ y.1 ∧ y.1 ≤ 65535 ∧ 0 ≤ y.2.1 ∧ y.2.1 ≤ 256 ∧ (0 ≤ y.1 ∨ y.2.1 = 0) := by
        unfold cutPart at hy
        split at hy
        · obtain ⟨a, h1, hy⟩ := Option.bind_eq_some_iff.1 hy
          obtain ⟨b, h2, rfl⟩ := Option.map_eq_some_iff.1 hy
          have n1 := num_some h1
          have n2 := num_some h2
          exact ⟨by have := n1.1; show -1 ≤ a; omega, n1.2.1, n2.1, n2.2.1, .inl n1.1⟩
        · obtain rfl := Option.some.inj hy
          exact ⟨Int.le_refl (-1), show (-1 : Int) ≤ 65535 by decide, Int.le_refl 0, show (0 : Int) ≤ 256 by decide, .inr rfl⟩
      have hnoise : 0 ≤ z.1 ∧ z.1 ≤ 65535 := by
        unfold noisePart at hz
        split at hz
        · obtain ⟨a, h1, hz⟩ := Option.bind_eq_some_iff.1 hz
          have n1 := num_some h1
          split at hz
          · obtain rfl := Option.some.inj hz
            exact ⟨n1.1, n1.2.1⟩
          · cases hz
        · obtain rfl := Option.some.inj hz
          exact ⟨Int.le_refl 0, show (0 : Int) ≤ 65535 by decide⟩
      refine ⟨by show (1 : Int) ≤ (opOf _ : Int); omega, by show (opOf _ : Int) ≤ 20; omega, ?_, hn.2, hcut.1, hcut.2.1, hnoise.1, hnoise.2, hcut.2.2.1, hcut.2.2.2.1, hcut.2.2.2.2⟩
      show (args.length : Int) = arity (opOf _ : Int)
      rw [arity_at _ (by omega) hop, hn.1]
      omega
    · cases h
theorem cmdsOf_ok : ∀ (P : List (List (List UInt8))) (l : List S31), cmdsOf P = some l → ∀ c ∈ l, Ok c
  | [], l, h => by
    have : l = [] := by simpa [cmdsOf] using h.symm
    subst this
    exact fun c hc => by cases hc
  | ws :: r, l, h => by
    unfold cmdsOf at h
    split at h
    · exact cmdsOf_ok r l h
    · obtain ⟨c, hc, h⟩ := Option.bind_eq_some_iff.1 h
      obtain ⟨x, hx, rfl⟩ := Option.map_eq_some_iff.1 h
      intro u hu
      rcases List.mem_cons.1 hu with rfl | hu
      · exact cmdOf_ok hc
      · exact cmdsOf_ok r x hx u hu
/-- The three answers of parse. -/
theorem parse_cases (t : List UInt8) : (cmdsOf ((linesOf t).map wordsOf) = none ∧ parse t = ([], 3)) ∨
    ∃ l, cmdsOf ((linesOf t).map wordsOf) = some l ∧ (∀ c ∈ l, Ok c) ∧ ((400 < l.length ∧ parse t = ([], 2)) ∨ (l.length ≤ 400 ∧ parse t = (l, 0))) := by
  cases h : cmdsOf ((linesOf t).map wordsOf) with
  | none => exact .inl ⟨rfl, by unfold parse; rw [h]⟩
  | some l =>
    refine .inr ⟨l, rfl, cmdsOf_ok _ _ h, ?_⟩
    by_cases hl : 400 < l.length
    · refine .inl ⟨hl, ?_⟩
      unfold parse
      rw [h]
      exact if_pos hl
    · refine .inr ⟨by omega, ?_⟩
      unfold parse
      rw [h]
      exact if_neg hl

/-! ### The same, and valid -/
theorem same_cmd (c : S31) (hl : c.f1.length ≤ 1000) : ∀ (d j k : Nat), j + d = c.f1.length → d < k →
    bootchainref39_Command.l0 k (j : Int) c.f0 c.f1 c.f2 c.f3 c.f4 c.f0 c.f1 c.f2 c.f3 c.f4 = some true
  | d, j, 0, _, hk => by omega
  | 0, j, k + 1, hj, hk => by
    rw [bootchainref39_Command.l0, if_neg (by omega), if_pos rfl, if_pos rfl, if_pos rfl, beq_self_eq_true]
  | d + 1, j, k + 1, hj, hk => by
    rw [bootchainref39_Command.l0, if_pos (by omega), if_pos (by omega), if_pos (by omega), if_pos rfl, wrap_small _ (by omega) (by omega)]
    exact same_cmd c hl d (j + 1) k (by omega) (by omega)
theorem same_loop (l : List S31) (h : ∀ c ∈ l, Ok c) (hl : l.length ≤ 10000) : ∀ (d j k : Nat), j + d = l.length → d + 10 < k → bootchainref39_Same.l0 k l l (j : Int) = some true
  | d, j, 0, _, hk => by omega
  | 0, j, k + 1, hj, hk => by rw [bootchainref39_Same.l0, if_neg (by omega)]
  | d + 1, j, k + 1, hj, hk => by
    obtain ⟨c, hc⟩ : ∃ c, l[j]? = some c := ⟨_, List.getElem?_eq_getElem (by omega)⟩
    have ho := h c (List.mem_of_getElem? hc)
    have h3 := ho.len3
    have hr : rd_T31 l (j : Int) = c := by
      unfold rd_T31
      rw [Int.toNat_natCast, List.getD_eq_getElem?_getD, hc]
      rfl
    have hcmd : bootchainref39_Command.f k c.f0 c.f1 c.f2 c.f3 c.f4 c.f0 c.f1 c.f2 c.f3 c.f4 = some true := by
      unfold bootchainref39_Command.f
      rw [if_pos rfl]
      exact same_cmd c (by omega) c.f1.length 0 k (by omega) (by omega)
    rw [bootchainref39_Same.l0, if_pos (by omega), if_pos (by omega), if_pos (by omega), hr, hcmd, Option.bind_some, if_pos rfl, wrap_small _ (by omega) (by omega)]
    exact same_loop l h hl d (j + 1) k (by omega) (by omega)
theorem same_eq (l : List S31) (h : ∀ c ∈ l, Ok c) (hl : l.length ≤ 10000) (k : Nat) (hk : l.length + 10 < k) : bootchainref39_Same.f k l l = some true := by
  unfold bootchainref39_Same.f
  rw [if_pos rfl]
  exact same_loop l h hl l.length 0 k (by omega) hk
theorem parse_f (t : ByteArray) (h : t.size ≤ 1000000) : script_Parse.f t = some (parse t.data.toList) := by
  unfold script_Parse.f
  rw [if_pos h]
end Go.Proofs.YtinmehodkeofaaaDoor.Q
