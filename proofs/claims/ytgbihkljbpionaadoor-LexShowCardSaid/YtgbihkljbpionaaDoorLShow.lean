/- The plain law of LexShow: Show and the reference's Show give one text, at every token sequence of at most 100 tokens of at most 100 bytes each. -/
import Derived.Test.YtgbihkljbpionaaDoorEPure2
import Derived.Test.YtgbihkljbpionaaDoorQx11
namespace Go.Proofs.YtgbihkljbpionaaDoor.Q
open Go.RowKit Go.Proofs.YtgbihkljbpionaaDoorW.PrintWords Go.Proofs.YtgbihkljbpionaaDoorW.PrintLast
set_option linter.unusedVariables false
set_option linter.unusedSimpArgs false

theorem rd_at (l : List S30) (i : Nat) (h : i < l.length) : rd_T30 l (i : Int) = l[i]'h := by
  unfold rd_T30
  rw [Int.toNat_natCast, List.getD_eq_getElem?_getD, List.getElem?_eq_getElem h]
  rfl
theorem mk_append (a b : List UInt8) : (⟨a.toArray⟩ : ByteArray) ++ ⟨b.toArray⟩ = ⟨(a ++ b).toArray⟩ := by
  apply ByteArray.ext
  apply Array.ext'
  simp
theorem text_mk (t : S30) : t.f1 = ⟨t.f1.data.toList.toArray⟩ := (Lib.mk_data t.f1).symm

theorem showL_zero (l : List S30) : showL (l.take 0) = [] := rfl
theorem showL_one (l : List S30) (h : 0 < l.length) : showL (l.take 1) = (l[0]'h).f1.data.toList := by
  cases l with
  | nil => simp at h
  | cons a r => exact Lib.join_one _ _
theorem showL_succ (l : List S30) (i : Nat) (h : i < l.length) (hi : 0 < i) : showL (l.take (i + 1)) = showL (l.take i) ++ [32] ++ (l[i]'h).f1.data.toList := by
  unfold showL
  cases l with
  | nil => simp at h
  | cons a r =>
    obtain ⟨j, rfl⟩ : ∃ j, i = j + 1 := ⟨i - 1, by omega⟩
    simp only [List.take_succ_cons, List.map_cons, Lib.join_cons]
    rw [List.map_take, List.map_take, Lib.joinTail_take_succ [32] (r.map (·.f1.data.toList)) j ((r[j]'(by simpa using h)).f1.data.toList) (by rw [List.getElem?_map, List.getElem?_eq_getElem (by simpa using h)]; rfl)]
    simp [List.append_assoc]
theorem showL_len (l : List S30) (b : Nat) (hb : ∀ t ∈ l, t.f1.size ≤ b) : (showL l).length ≤ l.length * (b + 1) := by
  cases l with
  | nil => simp [showL, Lib.join_nil]
  | cons a r =>
    unfold showL
    rw [List.map_cons, Lib.join_length]
    have key : ∀ r : List S30, (∀ t ∈ r, t.f1.size ≤ b) → Lib.lens (r.map (·.f1.data.toList)) ≤ r.length * b := by
      intro r
      induction r with
      | nil => intro _; simp [Lib.lens]
      | cons x r ih =>
        intro h
        have h1 := ih (fun t ht => h t (List.mem_cons_of_mem _ ht))
        have h2 := h x List.mem_cons_self
        simp only [Lib.lens, List.map_cons, List.sum_cons, List.length_cons] at h1 ⊢
        have h3 : x.f1.data.toList.length = x.f1.size := by rw [← Lib.size_eq]
        rw [Nat.add_mul]
        omega
    have hk := key (a :: r) hb
    simp only [List.length_cons, List.length_map, List.length_nil, List.map_cons] at hk ⊢
    rw [Nat.mul_add, Nat.mul_one]
    omega
theorem showL_take_len (l : List S30) (b i : Nat) (hb : ∀ t ∈ l, t.f1.size ≤ b) : (showL (l.take i)).length ≤ l.length * (b + 1) := by
  have h1 := showL_len (l.take i) b (fun t ht => hb t (List.mem_of_mem_take ht))
  have h2 : (l.take i).length ≤ l.length := by rw [List.length_take]; omega
  exact Nat.le_trans h1 (Nat.mul_le_mul_right _ h2)

theorem ref_show_loop (l : List S30) (hl : l.length ≤ 1000000) (hs : ∀ t ∈ l, t.f1.size ≤ 1000000) : ∀ (d i k : Nat), l.length - i = d → i ≤ l.length → d < k →
    bootchainref12_Show.l0 k l ⟨(showL (l.take i)).toArray⟩ (i : Int) = some ⟨(showL l).toArray⟩ := by
  intro d
  induction d with
  | zero =>
    intro i k hd hi hk
    obtain ⟨k, rfl⟩ : ∃ m, k = m + 1 := ⟨k - 1, by omega⟩
    simp only [bootchainref12_Show.l0]
    rw [if_neg (by omega), List.take_of_length_le (by omega)]
  | succ d ih =>
    intro i k hd hi hk
    obtain ⟨k, rfl⟩ : ∃ m, k = m + 1 := ⟨k - 1, by omega⟩
    have hlt : i < l.length := by omega
    have hb := showL_take_len l 1000000 i hs
    have hb2 : l.length * (1000000 + 1) ≤ 1000000 * 1000001 := Nat.mul_le_mul_right _ hl
    have hti := hs (l[i]'hlt) (List.getElem_mem hlt)
    have ih' := ih (i + 1) k (by omega) (by omega) (by omega)
    simp only [bootchainref12_Show.l0]
    rw [if_pos (by omega), rd_at l i hlt, wrap_small _ (by omega) (by omega)]
    have hsz : ∀ x : List UInt8, (⟨x.toArray⟩ : ByteArray).size = x.length := fun x => rfl
    by_cases h0 : 0 < i
    · rw [if_pos (by omega), if_pos (by rw [hsz]; omega), if_pos (by omega)]
      rw [show ((⟨#[32]⟩ : ByteArray)) = ⟨[(32 : UInt8)].toArray⟩ from rfl, mk_append]
      rw [if_pos (by rw [hsz, List.length_append]; simp; omega)]
      rw [text_mk (l[i]'hlt), mk_append, ← showL_succ l i hlt h0]
      exact ih'
    · obtain rfl : i = 0 := by omega
      rw [if_neg (by omega), if_pos (by omega), if_pos (by rw [hsz, showL_zero]; simp; omega)]
      rw [text_mk (l[0]'hlt), mk_append, showL_zero, List.nil_append, ← showL_one l hlt]
      exact ih'
theorem ref_show_eq (l : List S30) (hl : l.length ≤ 1000000) (hs : ∀ t ∈ l, t.f1.size ≤ 1000000) (k : Nat) (hk : l.length < k) : bootchainref12_Show.f k l = some ⟨(showL l).toArray⟩ :=
  ref_show_loop l hl hs l.length 0 k (by omega) (by omega) hk

theorem law_show_loop (l : List S30) (hl : l.length ≤ 100) : ∀ (d i k : Nat), l.length - i = d → i ≤ l.length → (∀ j (h : j < l.length), j < i → (l[j]'h).f1.size ≤ 100) → d + 200 < k → bootchainlaw12_LexShow.l0 k l true (i : Int) = some true := by
  intro d
  induction d with
  | zero =>
    intro i k hd hi hsm hk
    obtain ⟨k, rfl⟩ : ∃ m, k = m + 1 := ⟨k - 1, by omega⟩
    have hs : ∀ t ∈ l, t.f1.size ≤ 100 := by
      intro t ht
      obtain ⟨j, hj, rfl⟩ := List.getElem_of_mem ht
      exact hsm j hj (by omega)
    have hb := showL_len l 100 hs
    have hb2 : l.length * (100 + 1) ≤ 100 * 101 := Nat.mul_le_mul_right _ hl
    simp only [bootchainlaw12_LexShow.l0]
    rw [if_neg (by omega), if_pos True.intro, show_eq l (by omega) (by omega) k (by omega), ref_show_eq l (by omega) (fun t ht => by have := hs t ht; omega) k (by omega)]
    simp
  | succ d ih =>
    intro i k hd hi hsm hk
    obtain ⟨k, rfl⟩ : ∃ m, k = m + 1 := ⟨k - 1, by omega⟩
    have hlt : i < l.length := by omega
    simp only [bootchainlaw12_LexShow.l0]
    rw [if_pos (by omega), if_pos (by omega), rd_at l i hlt, wrap_small _ (by omega) (by omega)]
    by_cases h : ((l[i]'hlt).f1.size : Int) > 100
    · rw [if_pos h]
    · rw [if_neg h]
      refine ih (i + 1) k (by omega) (by omega) (fun j hj hji => ?_) (by omega)
      by_cases hj2 : j < i
      · exact hsm j hj hj2
      · obtain rfl : j = i := by omega
        omega

/-- THE PLAIN LAW. -/
theorem pure_show (l : List S30) : ∃ k, bootchainlaw12_LexShow.f k l = some true := by
  refine ⟨1000, ?_⟩
  unfold bootchainlaw12_LexShow.f
  rw [sanity_ok 1000 (by omega)]
  simp only [Option.bind_some]
  by_cases h : (l.length : Int) > 100
  · rw [if_pos h]
  · rw [if_neg h]
    exact law_show_loop l (by omega) l.length 0 1000 (by omega) (by omega) (fun j _ hj => by omega) (by omega)

end Go.Proofs.YtgbihkljbpionaaDoor.Q
