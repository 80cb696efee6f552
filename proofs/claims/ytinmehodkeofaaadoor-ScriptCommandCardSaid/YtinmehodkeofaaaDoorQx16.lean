-- Written by a program of this session (wip/extprint.py), which runs the kit's print over contracts of our own.
import Derived.Test.YtinmehodkeofaaaDoorQx0
import Derived.Test.YtinmehodkeofaaaDoorQx15
import Derived.Test.YtinmehodkeofaaaDoorQx7
namespace Go.Proofs.YtinmehodkeofaaaDoor.Q
open Go.RowKit Go.Proofs.YtinmehodkeofaaaDoorW.PrintWords Go.Proofs.YtinmehodkeofaaaDoorW.PrintLast Go.Proofs.YtinmehodkeofaaaDoorW.PrintMore
attribute [local go_sem] max2_int min2_int max_two min_two max_three min_three max_four min_four   -- for this text's walks alone
set_option linter.unusedVariables false
set_option linter.unusedSimpArgs false

/-! ### bootchainref39_Text: function 18 -/
mutual
def bootchainref39_Text.l0 : Nat → List (S31) → ByteArray → Int → Option (ByteArray)
  | 0, _, _, _ => none
  | k + 1, x0, x3, x4 => if x4 < (x0.length : Int) then (if 0 ≤ x4 then ((bootchainref39_Name.f ((rd_T31 x0 x4).f0)).bind fun t213 => (if x3.size + t213.size ≤ 9223372036854775807 then (bootchainref39_Text.l1 k x0 (x3 ++ t213) x4 0 ((rd_T31 x0 x4).f0) ((rd_T31 x0 x4).f1) ((rd_T31 x0 x4).f2) ((rd_T31 x0 x4).f3) ((rd_T31 x0 x4).f4)) else (none))) else (none)) else (some x3)
def bootchainref39_Text.l1 : Nat → List (S31) → ByteArray → Int → Int → Int → List Int → Int → Int → Int → Option (ByteArray)
  | 0, _, _, _, _, _, _, _, _, _ => none
  | k + 1, x0, x3, x4, x6, x213000, x213001, x213002, x213003, x213004 => if x6 < (x213001.length : Int) then (if x3.size + 1 ≤ 9223372036854775807 then (if 0 ≤ x6 then ((bootchainref39_Decimal.f k (rd x213001 x6)).bind fun t215 => (if (x3 ++ (⟨#[32]⟩ : ByteArray)).size + t215.size ≤ 9223372036854775807 then (bootchainref39_Text.l1 k x0 ((x3 ++ (⟨#[32]⟩ : ByteArray)) ++ t215) x4 (wrap64 (x6 + 1)) x213000 x213001 x213002 x213003 x213004) else (none))) else (none)) else (none)) else (if x213002 ≥ 0 then (if x3.size + 5 ≤ 9223372036854775807 then ((bootchainref39_Decimal.f k x213002).bind fun t216 => (if (x3 ++ (⟨#[32, 99, 117, 116, 32]⟩ : ByteArray)).size + t216.size ≤ 9223372036854775807 then (if ((x3 ++ (⟨#[32, 99, 117, 116, 32]⟩ : ByteArray)) ++ t216).size + 1 ≤ 9223372036854775807 then ((bootchainref39_Decimal.f k x213003).bind fun t217 => (if (((x3 ++ (⟨#[32, 99, 117, 116, 32]⟩ : ByteArray)) ++ t216) ++ (⟨#[32]⟩ : ByteArray)).size + t217.size ≤ 9223372036854775807 then (if x213004 > 0 then (if ((((x3 ++ (⟨#[32, 99, 117, 116, 32]⟩ : ByteArray)) ++ t216) ++ (⟨#[32]⟩ : ByteArray)) ++ t217).size + 7 ≤ 9223372036854775807 then ((bootchainref39_Decimal.f k x213004).bind fun t218 => (if (((((x3 ++ (⟨#[32, 99, 117, 116, 32]⟩ : ByteArray)) ++ t216) ++ (⟨#[32]⟩ : ByteArray)) ++ t217) ++ (⟨#[32, 110, 111, 105, 115, 101, 32]⟩ : ByteArray)).size + t218.size ≤ 9223372036854775807 then (if ((((((x3 ++ (⟨#[32, 99, 117, 116, 32]⟩ : ByteArray)) ++ t216) ++ (⟨#[32]⟩ : ByteArray)) ++ t217) ++ (⟨#[32, 110, 111, 105, 115, 101, 32]⟩ : ByteArray)) ++ t218).size + 1 ≤ 9223372036854775807 then (bootchainref39_Text.l0 k x0 (((((((x3 ++ (⟨#[32, 99, 117, 116, 32]⟩ : ByteArray)) ++ t216) ++ (⟨#[32]⟩ : ByteArray)) ++ t217) ++ (⟨#[32, 110, 111, 105, 115, 101, 32]⟩ : ByteArray)) ++ t218) ++ (⟨#[10]⟩ : ByteArray)) (wrap64 (x4 + 1))) else (none)) else (none))) else (none)) else (if ((((x3 ++ (⟨#[32, 99, 117, 116, 32]⟩ : ByteArray)) ++ t216) ++ (⟨#[32]⟩ : ByteArray)) ++ t217).size + 1 ≤ 9223372036854775807 then (bootchainref39_Text.l0 k x0 (((((x3 ++ (⟨#[32, 99, 117, 116, 32]⟩ : ByteArray)) ++ t216) ++ (⟨#[32]⟩ : ByteArray)) ++ t217) ++ (⟨#[10]⟩ : ByteArray)) (wrap64 (x4 + 1))) else (none))) else (none))) else (none)) else (none))) else (none)) else (if x213004 > 0 then (if x3.size + 7 ≤ 9223372036854775807 then ((bootchainref39_Decimal.f k x213004).bind fun t219 => (if (x3 ++ (⟨#[32, 110, 111, 105, 115, 101, 32]⟩ : ByteArray)).size + t219.size ≤ 9223372036854775807 then (if ((x3 ++ (⟨#[32, 110, 111, 105, 115, 101, 32]⟩ : ByteArray)) ++ t219).size + 1 ≤ 9223372036854775807 then (bootchainref39_Text.l0 k x0 (((x3 ++ (⟨#[32, 110, 111, 105, 115, 101, 32]⟩ : ByteArray)) ++ t219) ++ (⟨#[10]⟩ : ByteArray)) (wrap64 (x4 + 1))) else (none)) else (none))) else (none)) else (if x3.size + 1 ≤ 9223372036854775807 then (bootchainref39_Text.l0 k x0 (x3 ++ (⟨#[10]⟩ : ByteArray)) (wrap64 (x4 + 1))) else (none))))
end
def bootchainref39_Text.f (k : Nat) (l0 : List (S31)) : Option (ByteArray) := bootchainref39_Text.l0 k l0 (⟨#[]⟩ : ByteArray) 0
theorem bootchainref39_Text.mono_l : ∀ k, (∀ y0 y1 y2, LeO (bootchainref39_Text.l0 k y0 y1 y2) (bootchainref39_Text.l0 (k + 1) y0 y1 y2)) ∧ (∀ y0 y1 y2 y3 y4 y5 y6 y7 y8, LeO (bootchainref39_Text.l1 k y0 y1 y2 y3 y4 y5 y6 y7 y8) (bootchainref39_Text.l1 (k + 1) y0 y1 y2 y3 y4 y5 y6 y7 y8))
  | 0 => ⟨fun _ _ _ r h => by simp [bootchainref39_Text.l0] at h, fun _ _ _ _ _ _ _ _ _ r h => by simp [bootchainref39_Text.l1] at h⟩
  | k + 1 => by
    obtain ⟨ih0, ih1⟩ := bootchainref39_Text.mono_l k
    refine ⟨?_, ?_⟩
    · intro y0 y1 y2
      unfold bootchainref39_Text.l0
      repeat' first
      | (with_reducible exact ih0 _ _ _)
      | (with_reducible exact ih1 _ _ _ _ _ _ _ _ _)
      | (with_reducible exact bootchainref39_Decimal.mono _ _)
      | (with_reducible exact LeO.refl _)
      | (with_reducible exact LeO.none _)
      | (with_reducible refine LeO.ite ?_ ?_)
      | (with_reducible refine LeO.bind ?_ (fun _ => ?_))
      | exact ih0 _ _ _
      | exact ih1 _ _ _ _ _ _ _ _ _
      | exact bootchainref39_Decimal.mono _ _
      | exact LeO.none _
      | refine LeO.ite ?_ ?_
      | refine LeO.bind ?_ (fun _ => ?_)
    · intro y0 y1 y2 y3 y4 y5 y6 y7 y8
      unfold bootchainref39_Text.l1
      repeat' first
      | (with_reducible exact ih0 _ _ _)
      | (with_reducible exact ih1 _ _ _ _ _ _ _ _ _)
      | (with_reducible exact bootchainref39_Decimal.mono _ _)
      | (with_reducible exact LeO.refl _)
      | (with_reducible exact LeO.none _)
      | (with_reducible refine LeO.ite ?_ ?_)
      | (with_reducible refine LeO.bind ?_ (fun _ => ?_))
      | exact ih0 _ _ _
      | exact ih1 _ _ _ _ _ _ _ _ _
      | exact bootchainref39_Decimal.mono _ _
      | exact LeO.none _
      | refine LeO.ite ?_ ?_
      | refine LeO.bind ?_ (fun _ => ?_)
theorem bootchainref39_Text.mono : ∀ a0 k, LeO (bootchainref39_Text.f k a0) (bootchainref39_Text.f (k + 1) a0) := by
  intro a0 k
  obtain ⟨ih0, ih1⟩ := bootchainref39_Text.mono_l k
  unfold bootchainref39_Text.f
  repeat' first
      | (with_reducible exact ih0 _ _ _)
      | (with_reducible exact ih1 _ _ _ _ _ _ _ _ _)
      | (with_reducible exact bootchainref39_Decimal.mono _ _)
      | (with_reducible exact LeO.refl _)
      | (with_reducible exact LeO.none _)
      | (with_reducible refine LeO.ite ?_ ?_)
      | (with_reducible refine LeO.bind ?_ (fun _ => ?_))
      | exact ih0 _ _ _
      | exact ih1 _ _ _ _ _ _ _ _ _
      | exact bootchainref39_Decimal.mono _ _
      | exact LeO.none _
      | refine LeO.ite ?_ ?_
      | refine LeO.bind ?_ (fun _ => ?_)
def bootchainref39_Text.T12 : Bool × List (List Nat × List Nat) := (true, [([], []), ([0], [0]), ([], []), ([2], [2]), ([3], [3]), ([1, 4], [1, 4]), ([5], [5]), ([], []), ([7], [7]), ([8, 4], [8]), ([6, 9], [6, 9]), ([10, 9, 0, 1, 2, 3, 4, 5, 6, 7, 8, 9, 10], [0, 10])])
def bootchainref39_Text.B12 : List Nat := [0, 1, 0, 4, 12, 31, 63, 0, 128, 412, 1023, 2047]
theorem bootchainref39_Text.tab12 : rtab .any (opsOf Tryd.f18 12) = bootchainref39_Text.T12 := by kernel_rfl
theorem bootchainref39_Text.bits12 : waitsOk bootchainref39_Text.T12.2 bootchainref39_Text.B12 = true := by kernel_rfl
set_option maxHeartbeats 8000000 in
set_option maxRecDepth 100000 in
theorem bootchainref39_Text.calls (k : Nat) (A0 : Option Addr) (c0 : Nat) (l0 : List (S31)) (r : ByteArray) (w : World) (hr0 : Kd.C k31 w A0 l0.length l0) (hc0 : l0.length ≤ c0) (h : bootchainref39_Text.f k l0 = some r) :
    Calls Tryd.prog 18 #[.slice A0 l0.length c0] w fun e w' => e = .returned (.string r) ∧ Below w.heap.size w w' := by
  have hu31 := Tryd.underlying31
  have HR0 := Aside0.mk hr0
  have HC0 := Aside0.mk hc0
  clear hr0 hc0
  have HB := Aside0.mk (Below.refl w.heap.size w)
  have H : (bootchainref39_Text.l0 k l0 (⟨#[]⟩ : ByteArray) 0) = some r := h
  clear h
  have H' := Aside0.mk H
  clear H
  go_enter Tryd.func18, Tryd.ntmps18
  go_wp2
  go_loopg [3, 4] k (fun kq v3 v4 w' => ∃ (x3_1 : ByteArray) (x4_1 : Int), v3 = .string x3_1 ∧ v4 = .int .i64 x4_1 ∧ Aside0 (bootchainref39_Text.l0 kq l0 x3_1 x4_1 = some r) ∧ Aside0 (kq ≤ k) ∧ Aside0 (Below w.heap.size w w'))
  case atStart => exact ⟨((⟨#[]⟩ : ByteArray)), (0), (by first | rfl | (simp; done) | (simp [*]; done)), (by first | rfl | (simp; done) | (simp [*]; done)), H', ⟨Nat.le_refl _⟩, ⟨by repeat (first | (with_reducible first | exact HB.out | apply below_alloc | apply pw_below_drewN | apply below_drew1) | exact HB.out)⟩⟩
  case round =>
    clear H'
    try clear c1
    obtain ⟨x3_1, x4_1, rfl, rfl, HA, HK1, HB⟩ := hrel
    cases gk with
    | zero => exact absurd HA.out (by simp [bootchainref39_Text.l0])
    | succ k1 =>
      have H := HA.out
      clear HA
      simp only [bootchainref39_Text.l0] at H
      by_cases c2 : x4_1 < (l0.length : Int)
      · rw [if_pos c2] at H
        have c2b0 : decide (x4_1 < (l0.length : Int)) = true := decide_eq_true c2
        clear c2
        by_cases c3 : 0 ≤ x4_1
        · rw [if_pos c3] at H
          have c3b0 : decide (0 ≤ x4_1) = true := decide_eq_true c3
          clear c3
          replace H := Option.bind_eq_some_iff.mp H
          obtain ⟨t213, A40, H⟩ := H
          replace H : (if x3_1.size + t213.size ≤ 9223372036854775807 then (bootchainref39_Text.l1 k1 l0 (x3_1 ++ t213) x4_1 0 ((rd_T31 l0 x4_1).f0) ((rd_T31 l0 x4_1).f1) ((rd_T31 l0 x4_1).f2) ((rd_T31 l0 x4_1).f3) ((rd_T31 l0 x4_1).f4)) else (none)) = some r := H
          have A4 := Aside0.mk A40
          clear A40
          by_cases c5 : x3_1.size + t213.size ≤ 9223372036854775807
          · rw [if_pos c5] at H
            have c5b0 := eq_true c5
            have c5b1 : decide (x3_1.size + t213.size ≤ 9223372036854775807) = true := decide_eq_true c5
            try have c5b2 : (9223372036854775807 < x3_1.size + t213.size) = False := eq_false (Nat.not_lt.2 c5)
            have H' := Aside0.mk H
            clear H
            have p211 : 0 ≤ (x4_1 : Int) := of_decide_eq_true (by first | (with_reducible assumption) | assumption)
            have q211 : x4_1 < (l0.length : Int) := of_decide_eq_true (by first | (with_reducible assumption) | assumption)
            obtain ⟨ad211, A211_1, c211_1, e211, hx211_0, hx211_1, hx211_2, hx211_3, hx211_4, hl211_1, hi211_1⟩ := at_T31 HR0.out x4_1 p211 q211
            cases e211
            replace hx211_0 := (HB.out.cell (World.block_lt_of_cell? w _ hx211_0)).trans hx211_0
            replace hx211_1 := (HB.out.cell (World.block_lt_of_cell? w _ hx211_1)).trans hx211_1
            replace hx211_2 := (HB.out.cell (World.block_lt_of_cell? w _ hx211_2)).trans hx211_2
            replace hx211_3 := (HB.out.cell (World.block_lt_of_cell? w _ hx211_3)).trans hx211_3
            replace hx211_4 := (HB.out.cell (World.block_lt_of_cell? w _ hx211_4)).trans hx211_4
            have HR211_1 := Aside0.mk hi211_1
            have HC211_1 := Aside0.mk hl211_1
            clear hi211_1 hl211_1
            replace p211 := eq_true p211
            replace q211 := eq_true q211
            go_wp2_with (first | ((with_reducible refine gate_dst (N := 5) rfl ?_); refine box_event ?hg (N := 5) ?hd (cs := #[.int .i64 0, .slice none 0 0, .int .i64 0, .int .i64 0, .int .i64 0]) (t := 31) ?hr ?_; (case hd => rfl); (case hg => rfl); (case hr => first | (go_simp; done) | (go_simp; rfl)); intro gb212 hg w6 hbox hb; have n0_ := Aside0.mk (below_step (by repeat (first | (with_reducible first | exact HB.out | apply below_alloc | apply pw_below_drewN | apply below_drew1) | exact HB.out)) hb); have n1_ := Aside0.mk (hbox); have n2_ := Aside0.mk ((by rw [hg]; exact (below_size (by repeat (first | (with_reducible first | exact HB.out | apply below_alloc | apply pw_below_drewN | apply below_drew1) | exact HB.out))) : w.heap.size ≤ gb212)); have n3_ := Aside0.mk ((by rw [hg]; exact (below_size (by repeat (first | (with_reducible first | exact HB.out | apply below_alloc | apply pw_below_drewN | apply below_drew1) | exact HB.out))) : w.heap.size ≤ gb212)); clear HB; have HB := n0_; have BK212 := n1_; have GW212 := n2_; have GE212 := n3_; clear n0_ n1_ n2_ n3_; clear hb hbox hg; have hcz7_0 : w6.cell? ⟨gb212, 0, none⟩ = some (.int .i64 0) := (blk_cell BK212.out 0).trans rfl; have hcz7_1 : w6.cell? ⟨gb212, 1, none⟩ = some (.slice none 0 0) := (blk_cell BK212.out 1).trans rfl; have hcz7_2 : w6.cell? ⟨gb212, 2, none⟩ = some (.int .i64 0) := (blk_cell BK212.out 2).trans rfl; have hcz7_3 : w6.cell? ⟨gb212, 3, none⟩ = some (.int .i64 0) := (blk_cell BK212.out 3).trans rfl; have hcz7_4 : w6.cell? ⟨gb212, 4, none⟩ = some (.int .i64 0) := (blk_cell BK212.out 4).trans rfl; have hfz7_0 := blk_frozen BK212.out 0; have hfz7_1 := blk_frozen BK212.out 1; have hfz7_2 := blk_frozen BK212.out 2; have hfz7_3 := blk_frozen BK212.out 3; have hfz7_4 := blk_frozen BK212.out 4) | ((with_reducible refine gate_callee (f := 36) rfl ?_); refine goesL_ (some 20) rfl rfl Tryd.func36 (by kernel_rfl) rfl #[.int .i64 ((rd_T31 l0 x4_1).f0)] rfl (by (try simp only [List.map_toArray, List.map_cons, List.map_nil]); first | done | rfl | (simp only [List.length_drop, List.length_take]; rfl)) ?_; (with_reducible refine (bootchainref39_Name.calls ((rd_T31 l0 x4_1).f0) t213 _ A4.out).mono ?_); rintro e w' ⟨rfl, ⟨nd, rfl⟩⟩; refine ⟨_, rfl, ?_⟩))
            go_loopg [3, 6] k1 (fun kq v3 v6 w' => ∃ (x3_2 : ByteArray) (x6_2 : Int), v3 = .string x3_2 ∧ v6 = .int .i64 x6_2 ∧ Aside0 (bootchainref39_Text.l1 kq l0 x3_2 x4_1 x6_2 ((rd_T31 l0 x4_1).f0) ((rd_T31 l0 x4_1).f1) ((rd_T31 l0 x4_1).f2) ((rd_T31 l0 x4_1).f3) ((rd_T31 l0 x4_1).f4) = some r) ∧ Aside0 (kq ≤ k1) ∧ Aside0 (w'.heap[gb212]? = some (.cells #[.int .i64 ((rd_T31 l0 x4_1).f0), (.slice A211_1 ((rd_T31 l0 x4_1).f1).length c211_1), .int .i64 ((rd_T31 l0 x4_1).f2), .int .i64 ((rd_T31 l0 x4_1).f3), .int .i64 ((rd_T31 l0 x4_1).f4)] 31 (0, 0))) ∧ Aside0 (Below w.heap.size w w'))
            case atStart => exact ⟨(x3_1 ++ t213), (0), (by first | rfl | (simp; done) | (simp [*]; done)), (by first | rfl | (simp; done) | (simp [*]; done)), H', ⟨Nat.le_refl _⟩, ⟨by (with_reducible repeat (first | refine blk_drewN ?_ _ | refine blk_drew ?_ | refine blk_alloc ?_ _)); refine blk_put (cs := #[.int .i64 ((rd_T31 l0 x4_1).f0), .slice A211_1 ((rd_T31 l0 x4_1).f1).length c211_1, .int .i64 ((rd_T31 l0 x4_1).f2), .int .i64 ((rd_T31 l0 x4_1).f3), .int .i64 0]) ?_ 4 _ rfl; (with_reducible repeat (first | refine blk_drewN ?_ _ | refine blk_drew ?_ | refine blk_alloc ?_ _)); refine blk_put (cs := #[.int .i64 ((rd_T31 l0 x4_1).f0), .slice A211_1 ((rd_T31 l0 x4_1).f1).length c211_1, .int .i64 ((rd_T31 l0 x4_1).f2), .int .i64 0, .int .i64 0]) ?_ 3 _ rfl; (with_reducible repeat (first | refine blk_drewN ?_ _ | refine blk_drew ?_ | refine blk_alloc ?_ _)); refine blk_put (cs := #[.int .i64 ((rd_T31 l0 x4_1).f0), .slice A211_1 ((rd_T31 l0 x4_1).f1).length c211_1, .int .i64 0, .int .i64 0, .int .i64 0]) ?_ 2 _ rfl; (with_reducible repeat (first | refine blk_drewN ?_ _ | refine blk_drew ?_ | refine blk_alloc ?_ _)); refine blk_put (cs := #[.int .i64 ((rd_T31 l0 x4_1).f0), .slice none 0 0, .int .i64 0, .int .i64 0, .int .i64 0]) ?_ 1 _ rfl; (with_reducible repeat (first | refine blk_drewN ?_ _ | refine blk_drew ?_ | refine blk_alloc ?_ _)); refine blk_put (cs := #[.int .i64 0, .slice none 0 0, .int .i64 0, .int .i64 0, .int .i64 0]) ?_ 0 _ rfl; (with_reducible repeat (first | refine blk_drewN ?_ _ | refine blk_drew ?_ | refine blk_alloc ?_ _)); exact BK212.out⟩, ⟨by repeat (first | (with_reducible first | exact HB.out | apply below_alloc | apply pw_below_drewN | apply below_drew1 | refine below_set ?_ GE212.out) | exact HB.out)⟩⟩
            case round =>
              clear H'
              try clear c1
              try clear c2
              try clear c2b0
              try clear p2
              try clear q2
              try clear hx2
              try clear c3
              try clear c3b0
              try clear c5
              try clear c5b0
              try clear c5b1
              try clear c5b2
              try clear hcz7_0
              try clear hcz7_1
              try clear hcz7_2
              try clear hcz7_3
              try clear hcz7_4
              try clear hfz7_0
              try clear hfz7_1
              try clear hfz7_2
              try clear hfz7_3
              try clear hfz7_4
              try clear hx211_0
              try clear hx211_1
              try clear hx211_2
              try clear hx211_3
              try clear hx211_4
              try clear p211
              try clear q211
              obtain ⟨x3_2, x6_2, rfl, rfl, HA, HK2, BK212, HB⟩ := hrel
              cases gk with
              | zero => exact absurd HA.out (by simp [bootchainref39_Text.l1])
              | succ k2 =>
                have H := HA.out
                clear HA
                simp only [bootchainref39_Text.l1] at H
                by_cases c8 : x6_2 < (((rd_T31 l0 x4_1).f1).length : Int)
                · rw [if_pos c8] at H
                  have c8b0 : decide (x6_2 < (((rd_T31 l0 x4_1).f1).length : Int)) = true := decide_eq_true c8
                  clear c8
                  by_cases c9 : x3_2.size + 1 ≤ 9223372036854775807
                  · rw [if_pos c9] at H
                    have c9b0 := eq_true c9
                    have c9b1 : decide (x3_2.size + 1 ≤ 9223372036854775807) = true := decide_eq_true c9
                    try have c9b2 : (9223372036854775807 < x3_2.size + 1) = False := eq_false (Nat.not_lt.2 c9)
                    by_cases c10 : 0 ≤ x6_2
                    · rw [if_pos c10] at H
                      have c10b0 : decide (0 ≤ x6_2) = true := decide_eq_true c10
                      clear c10
                      replace H := Option.bind_eq_some_iff.mp H
                      obtain ⟨t215, A110, H⟩ := H
                      replace H : (if (x3_2 ++ (⟨#[32]⟩ : ByteArray)).size + t215.size ≤ 9223372036854775807 then (bootchainref39_Text.l1 k2 l0 ((x3_2 ++ (⟨#[32]⟩ : ByteArray)) ++ t215) x4_1 (wrap64 (x6_2 + 1)) ((rd_T31 l0 x4_1).f0) ((rd_T31 l0 x4_1).f1) ((rd_T31 l0 x4_1).f2) ((rd_T31 l0 x4_1).f3) ((rd_T31 l0 x4_1).f4)) else (none)) = some r := H
                      have A11 := Aside0.mk A110
                      clear A110
                      by_cases c12 : (x3_2 ++ (⟨#[32]⟩ : ByteArray)).size + t215.size ≤ 9223372036854775807
                      · rw [if_pos c12] at H
                        have c12bz : (9223372036854775807 < x3_2.size + 1 + t215.size) = False := eq_false (Nat.not_lt.2 (by have h_ := c12; (repeat rw [ByteArray.size_append] at h_); exact h_))
                        have c12b0 := eq_true c12
                        have c12b1 : decide ((x3_2 ++ (⟨#[32]⟩ : ByteArray)).size + t215.size ≤ 9223372036854775807) = true := decide_eq_true c12
                        try have c12b2 : (9223372036854775807 < (x3_2 ++ (⟨#[32]⟩ : ByteArray)).size + t215.size) = False := eq_false (Nat.not_lt.2 c12)
                        have H' := Aside0.mk H
                        clear H
                        have hcz13_0 : wr.cell? ⟨gb212, 0, none⟩ = some (.int .i64 ((rd_T31 l0 x4_1).f0)) := (blk_cell BK212.out 0).trans rfl
                        have hcz13_1 : wr.cell? ⟨gb212, 1, none⟩ = some (.slice A211_1 ((rd_T31 l0 x4_1).f1).length c211_1) := (blk_cell BK212.out 1).trans rfl
                        have hcz13_2 : wr.cell? ⟨gb212, 2, none⟩ = some (.int .i64 ((rd_T31 l0 x4_1).f2)) := (blk_cell BK212.out 2).trans rfl
                        have hcz13_3 : wr.cell? ⟨gb212, 3, none⟩ = some (.int .i64 ((rd_T31 l0 x4_1).f3)) := (blk_cell BK212.out 3).trans rfl
                        have hcz13_4 : wr.cell? ⟨gb212, 4, none⟩ = some (.int .i64 ((rd_T31 l0 x4_1).f4)) := (blk_cell BK212.out 4).trans rfl
                        have hfz13_0 := blk_frozen BK212.out 0
                        have hfz13_1 := blk_frozen BK212.out 1
                        have hfz13_2 := blk_frozen BK212.out 2
                        have hfz13_3 := blk_frozen BK212.out 3
                        have hfz13_4 := blk_frozen BK212.out 4
                        have p214 : 0 ≤ (x6_2 : Int) := of_decide_eq_true (by first | (with_reducible assumption) | assumption)
                        have q214 : x6_2 < (((rd_T31 l0 x4_1).f1).length : Int) := of_decide_eq_true (by first | (with_reducible assumption) | assumption)
                        obtain ⟨ad214, e214, hx214_0⟩ := Kd.at_int HR211_1.out x6_2 p214 q214
                        cases e214
                        replace hx214_0 := (HB.out.cell (World.block_lt_of_cell? w _ hx214_0)).trans hx214_0
                        replace p214 := eq_true p214
                        replace q214 := eq_true q214
                        go_wp2_with (first | ((with_reducible refine gate_callee (f := 37) rfl ?_); refine goesL_ (some 36) rfl rfl Tryd.func37 (by kernel_rfl) rfl #[.int .i64 (rd ((rd_T31 l0 x4_1).f1) x6_2)] rfl (by (try simp only [List.map_toArray, List.map_cons, List.map_nil]); first | done | rfl | (simp only [List.length_drop, List.length_take]; rfl)) ?_; (with_reducible refine (bootchainref39_Decimal.calls k2 (rd ((rd_T31 l0 x4_1).f1) x6_2) t215 _ A11.out).mono ?_); rintro e w14 ⟨rfl, hb⟩; refine ⟨_, rfl, ?_⟩; have n0_ := Aside0.mk (blk_below (g := gb212) (o := .cells #[.int .i64 ((rd_T31 l0 x4_1).f0), .slice (some ad214) ((rd_T31 l0 x4_1).f1).length c211_1, .int .i64 ((rd_T31 l0 x4_1).f2), .int .i64 ((rd_T31 l0 x4_1).f3), .int .i64 ((rd_T31 l0 x4_1).f4)] 31 (0, 0)) (by (with_reducible repeat (first | refine blk_drewN ?_ _ | refine blk_drew ?_ | refine blk_alloc ?_ _)); exact BK212.out) hb); have n1_ := Aside0.mk (below_step (by repeat (first | (with_reducible first | exact HB.out | apply below_alloc | apply pw_below_drewN | apply below_drew1 | refine below_set ?_ GE212.out) | exact HB.out)) hb); clear BK212; clear HB; have BK212 := n0_; have HB := n1_; clear n0_ n1_; (try clear hb); (try clear hb2); (try clear hk); (try clear hi)))
                        go_roundg k2
                        case measure => have := HK1.out; have := HK2.out; omega
                        case rel => exact ⟨((x3_2 ++ (⟨#[32]⟩ : ByteArray)) ++ t215), (wrap64 (x6_2 + 1)), (by first | rfl | (simp; done) | (simp [*]; done)), (by first | rfl | (simp; done) | (simp [*]; done)), H', ⟨by have := HK1.out; have := HK2.out; omega⟩, ⟨by (with_reducible repeat (first | refine blk_drewN ?_ _ | refine blk_drew ?_ | refine blk_alloc ?_ _)); exact BK212.out⟩, ⟨by repeat (first | (with_reducible first | exact HB.out | apply below_alloc | apply pw_below_drewN | apply below_drew1 | refine below_set ?_ GE212.out) | exact HB.out)⟩⟩
                      · rw [if_neg c12] at H
                        exact absurd H (by simp)
                    · rw [if_neg c10] at H
                      exact absurd H (by simp)
                  · rw [if_neg c9] at H
                    exact absurd H (by simp)
                · rw [if_neg c8] at H
                  have c8b0 : decide (x6_2 < (((rd_T31 l0 x4_1).f1).length : Int)) = false := decide_eq_false c8
                  clear c8
                  by_cases c15 : ((rd_T31 l0 x4_1).f2) ≥ 0
                  · rw [if_pos c15] at H
                    have c15b0 : decide (0 ≤ ((rd_T31 l0 x4_1).f2)) = true := decide_eq_true c15
                    clear c15
                    by_cases c16 : x3_2.size + 5 ≤ 9223372036854775807
                    · rw [if_pos c16] at H
                      have c16b0 := eq_true c16
                      have c16b1 : decide (x3_2.size + 5 ≤ 9223372036854775807) = true := decide_eq_true c16
                      try have c16b2 : (9223372036854775807 < x3_2.size + 5) = False := eq_false (Nat.not_lt.2 c16)
                      replace H := Option.bind_eq_some_iff.mp H
                      obtain ⟨t216, A170, H⟩ := H
                      replace H : (if (x3_2 ++ (⟨#[32, 99, 117, 116, 32]⟩ : ByteArray)).size + t216.size ≤ 9223372036854775807 then (if ((x3_2 ++ (⟨#[32, 99, 117, 116, 32]⟩ : ByteArray)) ++ t216).size + 1 ≤ 9223372036854775807 then ((bootchainref39_Decimal.f k2 ((rd_T31 l0 x4_1).f3)).bind fun t217 => (if (((x3_2 ++ (⟨#[32, 99, 117, 116, 32]⟩ : ByteArray)) ++ t216) ++ (⟨#[32]⟩ : ByteArray)).size + t217.size ≤ 9223372036854775807 then (if ((rd_T31 l0 x4_1).f4) > 0 then (if ((((x3_2 ++ (⟨#[32, 99, 117, 116, 32]⟩ : ByteArray)) ++ t216) ++ (⟨#[32]⟩ : ByteArray)) ++ t217).size + 7 ≤ 9223372036854775807 then ((bootchainref39_Decimal.f k2 ((rd_T31 l0 x4_1).f4)).bind fun t218 => (if (((((x3_2 ++ (⟨#[32, 99, 117, 116, 32]⟩ : ByteArray)) ++ t216) ++ (⟨#[32]⟩ : ByteArray)) ++ t217) ++ (⟨#[32, 110, 111, 105, 115, 101, 32]⟩ : ByteArray)).size + t218.size ≤ 9223372036854775807 then (if ((((((x3_2 ++ (⟨#[32, 99, 117, 116, 32]⟩ : ByteArray)) ++ t216) ++ (⟨#[32]⟩ : ByteArray)) ++ t217) ++ (⟨#[32, 110, 111, 105, 115, 101, 32]⟩ : ByteArray)) ++ t218).size + 1 ≤ 9223372036854775807 then (bootchainref39_Text.l0 k2 l0 (((((((x3_2 ++ (⟨#[32, 99, 117, 116, 32]⟩ : ByteArray)) ++ t216) ++ (⟨#[32]⟩ : ByteArray)) ++ t217) ++ (⟨#[32, 110, 111, 105, 115, 101, 32]⟩ : ByteArray)) ++ t218) ++ (⟨#[10]⟩ : ByteArray)) (wrap64 (x4_1 + 1))) else (none)) else (none))) else (none)) else (if ((((x3_2 ++ (⟨#[32, 99, 117, 116, 32]⟩ : ByteArray)) ++ t216) ++ (⟨#[32]⟩ : ByteArray)) ++ t217).size + 1 ≤ 9223372036854775807 then (bootchainref39_Text.l0 k2 l0 (((((x3_2 ++ (⟨#[32, 99, 117, 116, 32]⟩ : ByteArray)) ++ t216) ++ (⟨#[32]⟩ : ByteArray)) ++ t217) ++ (⟨#[10]⟩ : ByteArray)) (wrap64 (x4_1 + 1))) else (none))) else (none))) else (none)) else (none)) = some r := H
                      have A17 := Aside0.mk A170
                      clear A170
                      by_cases c18 : (x3_2 ++ (⟨#[32, 99, 117, 116, 32]⟩ : ByteArray)).size + t216.size ≤ 9223372036854775807
                      · rw [if_pos c18] at H
                        have c18bz : (9223372036854775807 < x3_2.size + 5 + t216.size) = False := eq_false (Nat.not_lt.2 (by have h_ := c18; (repeat rw [ByteArray.size_append] at h_); exact h_))
                        have c18b0 := eq_true c18
                        have c18b1 : decide ((x3_2 ++ (⟨#[32, 99, 117, 116, 32]⟩ : ByteArray)).size + t216.size ≤ 9223372036854775807) = true := decide_eq_true c18
                        try have c18b2 : (9223372036854775807 < (x3_2 ++ (⟨#[32, 99, 117, 116, 32]⟩ : ByteArray)).size + t216.size) = False := eq_false (Nat.not_lt.2 c18)
                        by_cases c19 : ((x3_2 ++ (⟨#[32, 99, 117, 116, 32]⟩ : ByteArray)) ++ t216).size + 1 ≤ 9223372036854775807
                        · rw [if_pos c19] at H
                          have c19bz : (9223372036854775807 < x3_2.size + 5 + t216.size + 1) = False := eq_false (Nat.not_lt.2 (by have h_ := c19; (repeat rw [ByteArray.size_append] at h_); exact h_))
                          have c19b0 := eq_true c19
                          have c19b1 : decide (((x3_2 ++ (⟨#[32, 99, 117, 116, 32]⟩ : ByteArray)) ++ t216).size + 1 ≤ 9223372036854775807) = true := decide_eq_true c19
                          try have c19b2 : (9223372036854775807 < ((x3_2 ++ (⟨#[32, 99, 117, 116, 32]⟩ : ByteArray)) ++ t216).size + 1) = False := eq_false (Nat.not_lt.2 c19)
                          replace H := Option.bind_eq_some_iff.mp H
                          obtain ⟨t217, A200, H⟩ := H
                          replace H : (if (((x3_2 ++ (⟨#[32, 99, 117, 116, 32]⟩ : ByteArray)) ++ t216) ++ (⟨#[32]⟩ : ByteArray)).size + t217.size ≤ 9223372036854775807 then (if ((rd_T31 l0 x4_1).f4) > 0 then (if ((((x3_2 ++ (⟨#[32, 99, 117, 116, 32]⟩ : ByteArray)) ++ t216) ++ (⟨#[32]⟩ : ByteArray)) ++ t217).size + 7 ≤ 9223372036854775807 then ((bootchainref39_Decimal.f k2 ((rd_T31 l0 x4_1).f4)).bind fun t218 => (if (((((x3_2 ++ (⟨#[32, 99, 117, 116, 32]⟩ : ByteArray)) ++ t216) ++ (⟨#[32]⟩ : ByteArray)) ++ t217) ++ (⟨#[32, 110, 111, 105, 115, 101, 32]⟩ : ByteArray)).size + t218.size ≤ 9223372036854775807 then (if ((((((x3_2 ++ (⟨#[32, 99, 117, 116, 32]⟩ : ByteArray)) ++ t216) ++ (⟨#[32]⟩ : ByteArray)) ++ t217) ++ (⟨#[32, 110, 111, 105, 115, 101, 32]⟩ : ByteArray)) ++ t218).size + 1 ≤ 9223372036854775807 then (bootchainref39_Text.l0 k2 l0 (((((((x3_2 ++ (⟨#[32, 99, 117, 116, 32]⟩ : ByteArray)) ++ t216) ++ (⟨#[32]⟩ : ByteArray)) ++ t217) ++ (⟨#[32, 110, 111, 105, 115, 101, 32]⟩ : ByteArray)) ++ t218) ++ (⟨#[10]⟩ : ByteArray)) (wrap64 (x4_1 + 1))) else (none)) else (none))) else (none)) else (if ((((x3_2 ++ (⟨#[32, 99, 117, 116, 32]⟩ : ByteArray)) ++ t216) ++ (⟨#[32]⟩ : ByteArray)) ++ t217).size + 1 ≤ 9223372036854775807 then (bootchainref39_Text.l0 k2 l0 (((((x3_2 ++ (⟨#[32, 99, 117, 116, 32]⟩ : ByteArray)) ++ t216) ++ (⟨#[32]⟩ : ByteArray)) ++ t217) ++ (⟨#[10]⟩ : ByteArray)) (wrap64 (x4_1 + 1))) else (none))) else (none)) = some r := H
                          have A20 := Aside0.mk A200
                          clear A200
                          by_cases c21 : (((x3_2 ++ (⟨#[32, 99, 117, 116, 32]⟩ : ByteArray)) ++ t216) ++ (⟨#[32]⟩ : ByteArray)).size + t217.size ≤ 9223372036854775807
                          · rw [if_pos c21] at H
                            have c21bz : (9223372036854775807 < x3_2.size + 5 + t216.size + 1 + t217.size) = False := eq_false (Nat.not_lt.2 (by have h_ := c21; (repeat rw [ByteArray.size_append] at h_); exact h_))
                            have c21b0 := eq_true c21
                            have c21b1 : decide ((((x3_2 ++ (⟨#[32, 99, 117, 116, 32]⟩ : ByteArray)) ++ t216) ++ (⟨#[32]⟩ : ByteArray)).size + t217.size ≤ 9223372036854775807) = true := decide_eq_true c21
                            try have c21b2 : (9223372036854775807 < (((x3_2 ++ (⟨#[32, 99, 117, 116, 32]⟩ : ByteArray)) ++ t216) ++ (⟨#[32]⟩ : ByteArray)).size + t217.size) = False := eq_false (Nat.not_lt.2 c21)
                            by_cases c22 : ((rd_T31 l0 x4_1).f4) > 0
                            · rw [if_pos c22] at H
                              have c22b0 : decide (0 < ((rd_T31 l0 x4_1).f4)) = true := decide_eq_true c22
                              clear c22
                              by_cases c23 : ((((x3_2 ++ (⟨#[32, 99, 117, 116, 32]⟩ : ByteArray)) ++ t216) ++ (⟨#[32]⟩ : ByteArray)) ++ t217).size + 7 ≤ 9223372036854775807
                              · rw [if_pos c23] at H
                                have c23bz : (9223372036854775807 < x3_2.size + 5 + t216.size + 1 + t217.size + 7) = False := eq_false (Nat.not_lt.2 (by have h_ := c23; (repeat rw [ByteArray.size_append] at h_); exact h_))
                                have c23b0 := eq_true c23
                                have c23b1 : decide (((((x3_2 ++ (⟨#[32, 99, 117, 116, 32]⟩ : ByteArray)) ++ t216) ++ (⟨#[32]⟩ : ByteArray)) ++ t217).size + 7 ≤ 9223372036854775807) = true := decide_eq_true c23
                                try have c23b2 : (9223372036854775807 < ((((x3_2 ++ (⟨#[32, 99, 117, 116, 32]⟩ : ByteArray)) ++ t216) ++ (⟨#[32]⟩ : ByteArray)) ++ t217).size + 7) = False := eq_false (Nat.not_lt.2 c23)
                                replace H := Option.bind_eq_some_iff.mp H
                                obtain ⟨t218, A240, H⟩ := H
                                replace H : (if (((((x3_2 ++ (⟨#[32, 99, 117, 116, 32]⟩ : ByteArray)) ++ t216) ++ (⟨#[32]⟩ : ByteArray)) ++ t217) ++ (⟨#[32, 110, 111, 105, 115, 101, 32]⟩ : ByteArray)).size + t218.size ≤ 9223372036854775807 then (if ((((((x3_2 ++ (⟨#[32, 99, 117, 116, 32]⟩ : ByteArray)) ++ t216) ++ (⟨#[32]⟩ : ByteArray)) ++ t217) ++ (⟨#[32, 110, 111, 105, 115, 101, 32]⟩ : ByteArray)) ++ t218).size + 1 ≤ 9223372036854775807 then (bootchainref39_Text.l0 k2 l0 (((((((x3_2 ++ (⟨#[32, 99, 117, 116, 32]⟩ : ByteArray)) ++ t216) ++ (⟨#[32]⟩ : ByteArray)) ++ t217) ++ (⟨#[32, 110, 111, 105, 115, 101, 32]⟩ : ByteArray)) ++ t218) ++ (⟨#[10]⟩ : ByteArray)) (wrap64 (x4_1 + 1))) else (none)) else (none)) = some r := H
                                have A24 := Aside0.mk A240
                                clear A240
                                by_cases c25 : (((((x3_2 ++ (⟨#[32, 99, 117, 116, 32]⟩ : ByteArray)) ++ t216) ++ (⟨#[32]⟩ : ByteArray)) ++ t217) ++ (⟨#[32, 110, 111, 105, 115, 101, 32]⟩ : ByteArray)).size + t218.size ≤ 9223372036854775807
                                · rw [if_pos c25] at H
                                  have c25bz : (9223372036854775807 < x3_2.size + 5 + t216.size + 1 + t217.size + 7 + t218.size) = False := eq_false (Nat.not_lt.2 (by have h_ := c25; (repeat rw [ByteArray.size_append] at h_); exact h_))
                                  have c25b0 := eq_true c25
                                  have c25b1 : decide ((((((x3_2 ++ (⟨#[32, 99, 117, 116, 32]⟩ : ByteArray)) ++ t216) ++ (⟨#[32]⟩ : ByteArray)) ++ t217) ++ (⟨#[32, 110, 111, 105, 115, 101, 32]⟩ : ByteArray)).size + t218.size ≤ 9223372036854775807) = true := decide_eq_true c25
                                  try have c25b2 : (9223372036854775807 < (((((x3_2 ++ (⟨#[32, 99, 117, 116, 32]⟩ : ByteArray)) ++ t216) ++ (⟨#[32]⟩ : ByteArray)) ++ t217) ++ (⟨#[32, 110, 111, 105, 115, 101, 32]⟩ : ByteArray)).size + t218.size) = False := eq_false (Nat.not_lt.2 c25)
                                  by_cases c26 : ((((((x3_2 ++ (⟨#[32, 99, 117, 116, 32]⟩ : ByteArray)) ++ t216) ++ (⟨#[32]⟩ : ByteArray)) ++ t217) ++ (⟨#[32, 110, 111, 105, 115, 101, 32]⟩ : ByteArray)) ++ t218).size + 1 ≤ 9223372036854775807
                                  · rw [if_pos c26] at H
                                    have c26bz : (9223372036854775807 < x3_2.size + 5 + t216.size + 1 + t217.size + 7 + t218.size + 1) = False := eq_false (Nat.not_lt.2 (by have h_ := c26; (repeat rw [ByteArray.size_append] at h_); exact h_))
                                    have c26b0 := eq_true c26
                                    have c26b1 : decide (((((((x3_2 ++ (⟨#[32, 99, 117, 116, 32]⟩ : ByteArray)) ++ t216) ++ (⟨#[32]⟩ : ByteArray)) ++ t217) ++ (⟨#[32, 110, 111, 105, 115, 101, 32]⟩ : ByteArray)) ++ t218).size + 1 ≤ 9223372036854775807) = true := decide_eq_true c26
                                    try have c26b2 : (9223372036854775807 < ((((((x3_2 ++ (⟨#[32, 99, 117, 116, 32]⟩ : ByteArray)) ++ t216) ++ (⟨#[32]⟩ : ByteArray)) ++ t217) ++ (⟨#[32, 110, 111, 105, 115, 101, 32]⟩ : ByteArray)) ++ t218).size + 1) = False := eq_false (Nat.not_lt.2 c26)
                                    have H' := Aside0.mk H
                                    clear H
                                    have hcz27_0 : wr.cell? ⟨gb212, 0, none⟩ = some (.int .i64 ((rd_T31 l0 x4_1).f0)) := (blk_cell BK212.out 0).trans rfl
                                    have hcz27_1 : wr.cell? ⟨gb212, 1, none⟩ = some (.slice A211_1 ((rd_T31 l0 x4_1).f1).length c211_1) := (blk_cell BK212.out 1).trans rfl
                                    have hcz27_2 : wr.cell? ⟨gb212, 2, none⟩ = some (.int .i64 ((rd_T31 l0 x4_1).f2)) := (blk_cell BK212.out 2).trans rfl
                                    have hcz27_3 : wr.cell? ⟨gb212, 3, none⟩ = some (.int .i64 ((rd_T31 l0 x4_1).f3)) := (blk_cell BK212.out 3).trans rfl
                                    have hcz27_4 : wr.cell? ⟨gb212, 4, none⟩ = some (.int .i64 ((rd_T31 l0 x4_1).f4)) := (blk_cell BK212.out 4).trans rfl
                                    have hfz27_0 := blk_frozen BK212.out 0
                                    have hfz27_1 := blk_frozen BK212.out 1
                                    have hfz27_2 := blk_frozen BK212.out 2
                                    have hfz27_3 := blk_frozen BK212.out 3
                                    have hfz27_4 := blk_frozen BK212.out 4
                                    try go_wp2
                                    have n0_ := Aside0.mk (blk_drew BK212.out)
                                    have n1_ := Aside0.mk (below_drew1 HB.out)
                                    clear BK212
                                    clear HB
                                    have BK212 := n0_
                                    have HB := n1_
                                    clear n0_ n1_
                                    refine start_ (n := 12) (S := fun w' => w'.cell? ⟨gb212, 0, none⟩ = some (.int .i64 ((rd_T31 l0 x4_1).f0)) ∧ w'.cell? ⟨gb212, 1, none⟩ = some (.slice A211_1 ((rd_T31 l0 x4_1).f1).length c211_1) ∧ w'.cell? ⟨gb212, 2, none⟩ = some (.int .i64 ((rd_T31 l0 x4_1).f2)) ∧ w'.cell? ⟨gb212, 3, none⟩ = some (.int .i64 ((rd_T31 l0 x4_1).f3)) ∧ w'.cell? ⟨gb212, 4, none⟩ = some (.int .i64 ((rd_T31 l0 x4_1).f4))) (ds := []) #[false, false, false, false, false, false, false, false, false, false, false, false] (by kernel_rfl) rfl rfl ⟨(blk_cell BK212.out 0).trans rfl, (blk_cell BK212.out 1).trans rfl, (blk_cell BK212.out 2).trans rfl, (blk_cell BK212.out 3).trans rfl, (blk_cell BK212.out 4).trans rfl⟩ (fun hHeld => ?_); refine with_tabW bootchainref39_Text.tab12 bootchainref39_Text.bits12 (fun HT_ HW_ => ?_)
                                    generalize wr.drew = w28 at BK212 HB hHeld ⊢
                                    refine pure_ (i := 0) (N := some 41) (v := ?_) (a' := ?_) #[true, false, false, false, false, false, false, false, false, false, false, false] rfl rfl (any_of HT_.out (by kernel_rfl)) (fun _ _ _ h => h) (Or.inl ⟨by rfl, ?_⟩) ?_ ?_
                                    rotate_left
                                    · intro w'
                                      go_simp
                                      with_reducible rfl
                                    rotate_left
                                    · simp only [Act.put, List.setIfInBounds_toArray, List.set_cons_zero, List.set_cons_succ, i64_w, i32_w]
                                      rfl
                                    refine pure_ (i := 1) (N := some 42) (v := ?_) (a' := ?_) #[true, true, false, false, false, false, false, false, false, false, false, false] rfl rfl (any_of HT_.out (by kernel_rfl)) (fun _ _ _ h => h) (Or.inl ⟨by rfl, ?_⟩) ?_ ?_
                                    rotate_left
                                    · intro w'
                                      go_simp
                                      with_reducible rfl
                                    rotate_left
                                    · simp only [Act.put, List.setIfInBounds_toArray, List.set_cons_zero, List.set_cons_succ, i64_w, i32_w]
                                      rfl
                                    refine pure_ (i := 2) (N := some 43) (v := ?_) (a' := ?_) #[true, true, true, false, false, false, false, false, false, false, false, false] rfl rfl (any_of HT_.out (by kernel_rfl)) (fun _ _ _ h => h) (Or.inl ⟨by rfl, ?_⟩) ?_ ?_
                                    rotate_left
                                    · intro w'
                                      go_simp
                                      with_reducible rfl
                                    rotate_left
                                    · simp only [Act.put, List.setIfInBounds_toArray, List.set_cons_zero, List.set_cons_succ, i64_w, i32_w]
                                      rfl
                                    refine pure_ (i := 7) (N := some 48) (v := ?_) (a' := ?_) #[true, true, true, false, false, false, false, true, false, false, false, false] rfl rfl (any_of HT_.out (by kernel_rfl)) (fun _ _ _ h => h) (Or.inl ⟨by rfl, ?_⟩) ?_ ?_
                                    rotate_left
                                    · intro w'
                                      go_simp
                                      with_reducible rfl
                                    rotate_left
                                    · simp only [Act.put, List.setIfInBounds_toArray, List.set_cons_zero, List.set_cons_succ, i64_w, i32_w]
                                      rfl
                                    refine take_ (i := 3) (N := some 44) (v := ?_) (a' := ?_) #[true, true, true, true, false, false, false, true, false, false, false, false] rfl rfl (take_ofW HT_.out HW_.out (by kernel_rfl)) (fun _ _ _ h => h) (Or.inl ⟨by rfl, ?_⟩) hHeld ?_ ?_
                                    rotate_left
                                    · rintro w' ⟨s0, s1, s2, s3, s4⟩
                                      go_simp
                                      with_reducible rfl
                                    rotate_left
                                    · simp only [Act.put, List.setIfInBounds_toArray, List.set_cons_zero, List.set_cons_succ, i64_w, i32_w]
                                      rfl
                                    refine take_ (i := 8) (N := some 49) (v := ?_) (a' := ?_) #[true, true, true, true, false, false, false, true, true, false, false, false] rfl rfl (take_ofW HT_.out HW_.out (by kernel_rfl)) (fun _ _ _ h => h) (Or.inl ⟨by rfl, ?_⟩) hHeld ?_ ?_
                                    rotate_left
                                    · rintro w' ⟨s0, s1, s2, s3, s4⟩
                                      go_simp
                                      with_reducible rfl
                                    rotate_left
                                    · simp only [Act.put, List.setIfInBounds_toArray, List.set_cons_zero, List.set_cons_succ, i64_w, i32_w]
                                      rfl
                                    refine one_ (i := 4) (N := some 45) #[true, true, true, true, true, false, false, true, true, false, false, false] rfl rfl (one_of HT_.out (by kernel_rfl)) (by decide) (fun K hK => ?_)
                                    refine goes_ Tryd.func37 (by kernel_rfl) rfl #[.int .i64 ((rd_T31 l0 x4_1).f2)] (by rfl) rfl rfl (by (try simp only [List.map_toArray, List.map_cons, List.map_nil]); first | done | rfl | (simp only [List.length_drop, List.length_take]; rfl)) ?_
                                    with_reducible refine (bootchainref39_Decimal.calls k2 ((rd_T31 l0 x4_1).f2) t216 _ A17.out).mono ?_
                                    rintro e w29 ⟨rfl, hb⟩
                                    refine ⟨_, rfl, ?_⟩
                                    have n0_ := Aside0.mk (blk_below (g := gb212) (o := .cells #[.int .i64 ((rd_T31 l0 x4_1).f0), .slice A211_1 ((rd_T31 l0 x4_1).f1).length c211_1, .int .i64 ((rd_T31 l0 x4_1).f2), .int .i64 ((rd_T31 l0 x4_1).f3), .int .i64 ((rd_T31 l0 x4_1).f4)] 31 (0, 0)) (by (with_reducible repeat (first | refine blk_drewN ?_ _ | refine blk_drew ?_ | refine blk_alloc ?_ _)); exact BK212.out) hb)
                                    have n1_ := Aside0.mk (below_step (by repeat (first | (with_reducible first | exact HB.out | apply below_alloc | apply pw_below_drewN | apply below_drew1 | refine below_set ?_ GE212.out) | exact HB.out)) hb)
                                    clear BK212
                                    clear HB
                                    have BK212 := n0_
                                    have HB := n1_
                                    clear n0_ n1_
                                    (try clear hb)
                                    (try clear hb2)
                                    (try clear hk)
                                    (try clear hi)
                                    refine hK.out _ _ ⟨(blk_cell BK212.out 0).trans rfl, (blk_cell BK212.out 1).trans rfl, (blk_cell BK212.out 2).trans rfl, (blk_cell BK212.out 3).trans rfl, (blk_cell BK212.out 4).trans rfl⟩ (fun hHeld => ?_)
                                    clear hK K
                                    refine norm_ (a' := ?_) ?_ ?_
                                    rotate_left
                                    · show Act.put _ (some 45) _ = _
                                      simp only [Act.put, List.setIfInBounds_toArray, List.set_cons_zero, List.set_cons_succ, i64_w, i32_w]
                                      rfl
                                    refine pure_ (i := 5) (N := some 46) (v := ?_) (a' := ?_) #[true, true, true, true, true, true, false, true, true, false, false, false] rfl rfl (any_of HT_.out (by kernel_rfl)) (fun _ _ _ h => h) (Or.inl ⟨by rfl, ?_⟩) ?_ ?_
                                    rotate_left
                                    · intro w'
                                      go_simp
                                      with_reducible rfl
                                    rotate_left
                                    · simp only [Act.put, List.setIfInBounds_toArray, List.set_cons_zero, List.set_cons_succ, i64_w, i32_w]
                                      rfl
                                    refine pure_ (i := 6) (N := some 47) (v := ?_) (a' := ?_) #[true, true, true, true, true, true, true, true, true, false, false, false] rfl rfl (any_of HT_.out (by kernel_rfl)) (fun _ _ _ h => h) (Or.inl ⟨by rfl, ?_⟩) ?_ ?_
                                    rotate_left
                                    · intro w'
                                      go_simp
                                      with_reducible rfl
                                    rotate_left
                                    · simp only [Act.put, List.setIfInBounds_toArray, List.set_cons_zero, List.set_cons_succ, i64_w, i32_w]
                                      rfl
                                    refine one_ (i := 9) (N := some 50) #[true, true, true, true, true, true, true, true, true, true, false, false] rfl rfl (one_of HT_.out (by kernel_rfl)) (by decide) (fun K hK => ?_)
                                    refine goes_ Tryd.func37 (by kernel_rfl) rfl #[.int .i64 ((rd_T31 l0 x4_1).f3)] (by rfl) rfl rfl (by (try simp only [List.map_toArray, List.map_cons, List.map_nil]); first | done | rfl | (simp only [List.length_drop, List.length_take]; rfl)) ?_
                                    with_reducible refine (bootchainref39_Decimal.calls k2 ((rd_T31 l0 x4_1).f3) t217 _ A20.out).mono ?_
                                    rintro e w30 ⟨rfl, hb⟩
                                    refine ⟨_, rfl, ?_⟩
                                    have n0_ := Aside0.mk (blk_below (g := gb212) (o := .cells #[.int .i64 ((rd_T31 l0 x4_1).f0), .slice A211_1 ((rd_T31 l0 x4_1).f1).length c211_1, .int .i64 ((rd_T31 l0 x4_1).f2), .int .i64 ((rd_T31 l0 x4_1).f3), .int .i64 ((rd_T31 l0 x4_1).f4)] 31 (0, 0)) (by (with_reducible repeat (first | refine blk_drewN ?_ _ | refine blk_drew ?_ | refine blk_alloc ?_ _)); exact BK212.out) hb)
                                    have n1_ := Aside0.mk (below_step (by repeat (first | (with_reducible first | exact HB.out | apply below_alloc | apply pw_below_drewN | apply below_drew1 | refine below_set ?_ GE212.out) | exact HB.out)) hb)
                                    clear BK212
                                    clear HB
                                    have BK212 := n0_
                                    have HB := n1_
                                    clear n0_ n1_
                                    (try clear hb)
                                    (try clear hb2)
                                    (try clear hk)
                                    (try clear hi)
                                    refine hK.out _ _ ⟨(blk_cell BK212.out 0).trans rfl, (blk_cell BK212.out 1).trans rfl, (blk_cell BK212.out 2).trans rfl, (blk_cell BK212.out 3).trans rfl, (blk_cell BK212.out 4).trans rfl⟩ (fun hHeld => ?_)
                                    clear hK K
                                    refine norm_ (a' := ?_) ?_ ?_
                                    rotate_left
                                    · show Act.put _ (some 50) _ = _
                                      simp only [Act.put, List.setIfInBounds_toArray, List.set_cons_zero, List.set_cons_succ, i64_w, i32_w]
                                      rfl
                                    refine pure_ (i := 10) (N := some 51) (v := ?_) (a' := ?_) #[true, true, true, true, true, true, true, true, true, true, true, false] rfl rfl (any_of HT_.out (by kernel_rfl)) (fun _ _ _ h => h) (Or.inl ⟨by rfl, ?_⟩) ?_ ?_
                                    rotate_left
                                    · intro w'
                                      go_simp
                                      with_reducible rfl
                                    rotate_left
                                    · simp only [Act.put, List.setIfInBounds_toArray, List.set_cons_zero, List.set_cons_succ, i64_w, i32_w]
                                      rfl
                                    refine pure_ (i := 11) (N := some 3) (v := ?_) (a' := ?_) #[true, true, true, true, true, true, true, true, true, true, true, true] rfl rfl (any_of HT_.out (by kernel_rfl)) (fun _ _ _ h => h) (Or.inl ⟨by rfl, ?_⟩) ?_ ?_
                                    rotate_left
                                    · intro w'
                                      go_simp
                                      with_reducible rfl
                                    rotate_left
                                    · simp only [Act.put, List.setIfInBounds_toArray, List.set_cons_zero, List.set_cons_succ, i64_w, i32_w]
                                      rfl
                                    refine done_ (done_of HT_.out (by kernel_rfl)) ?_
                                    have hcz31_0 : w30.cell? ⟨gb212, 0, none⟩ = some (.int .i64 ((rd_T31 l0 x4_1).f0)) := (blk_cell BK212.out 0).trans rfl
                                    have hcz31_1 : w30.cell? ⟨gb212, 1, none⟩ = some (.slice A211_1 ((rd_T31 l0 x4_1).f1).length c211_1) := (blk_cell BK212.out 1).trans rfl
                                    have hcz31_2 : w30.cell? ⟨gb212, 2, none⟩ = some (.int .i64 ((rd_T31 l0 x4_1).f2)) := (blk_cell BK212.out 2).trans rfl
                                    have hcz31_3 : w30.cell? ⟨gb212, 3, none⟩ = some (.int .i64 ((rd_T31 l0 x4_1).f3)) := (blk_cell BK212.out 3).trans rfl
                                    have hcz31_4 : w30.cell? ⟨gb212, 4, none⟩ = some (.int .i64 ((rd_T31 l0 x4_1).f4)) := (blk_cell BK212.out 4).trans rfl
                                    have hfz31_0 := blk_frozen BK212.out 0
                                    have hfz31_1 := blk_frozen BK212.out 1
                                    have hfz31_2 := blk_frozen BK212.out 2
                                    have hfz31_3 := blk_frozen BK212.out 3
                                    have hfz31_4 := blk_frozen BK212.out 4
                                    try go_wp2_with (first | ((with_reducible refine gate_callee (f := 37) rfl ?_); refine goesL_ (some 59) rfl rfl Tryd.func37 (by kernel_rfl) rfl #[.int .i64 ((rd_T31 l0 x4_1).f4)] rfl (by (try simp only [List.map_toArray, List.map_cons, List.map_nil]); first | done | rfl | (simp only [List.length_drop, List.length_take]; rfl)) ?_; (with_reducible refine (bootchainref39_Decimal.calls k2 ((rd_T31 l0 x4_1).f4) t218 _ A24.out).mono ?_); rintro e w32 ⟨rfl, hb⟩; refine ⟨_, rfl, ?_⟩; have n0_ := Aside0.mk (blk_below (g := gb212) (o := .cells #[.int .i64 ((rd_T31 l0 x4_1).f0), .slice A211_1 ((rd_T31 l0 x4_1).f1).length c211_1, .int .i64 ((rd_T31 l0 x4_1).f2), .int .i64 ((rd_T31 l0 x4_1).f3), .int .i64 ((rd_T31 l0 x4_1).f4)] 31 (0, 0)) (by (with_reducible repeat (first | refine blk_drewN ?_ _ | refine blk_drew ?_ | refine blk_alloc ?_ _)); exact BK212.out) hb); have n1_ := Aside0.mk (below_step (by repeat (first | (with_reducible first | exact HB.out | apply below_alloc | apply pw_below_drewN | apply below_drew1 | refine below_set ?_ GE212.out) | exact HB.out)) hb); clear BK212; clear HB; have BK212 := n0_; have HB := n1_; clear n0_ n1_; (try clear hb); (try clear hb2); (try clear hk); (try clear hi)))
                                    go_roundg k2
                                    case measure => have := HK1.out; have := HK2.out; omega
                                    case rel => exact ⟨(((((((x3_2 ++ (⟨#[32, 99, 117, 116, 32]⟩ : ByteArray)) ++ t216) ++ (⟨#[32]⟩ : ByteArray)) ++ t217) ++ (⟨#[32, 110, 111, 105, 115, 101, 32]⟩ : ByteArray)) ++ t218) ++ (⟨#[10]⟩ : ByteArray)), (wrap64 (x4_1 + 1)), (by first | rfl | (simp; done) | (simp [*]; done)), (by first | rfl | (simp; done) | (simp [*]; done)), H', ⟨by have := HK1.out; have := HK2.out; omega⟩, ⟨by repeat (first | (with_reducible first | exact HB.out | apply below_alloc | apply pw_below_drewN | apply below_drew1 | refine below_set ?_ GE212.out) | exact HB.out)⟩⟩
                                  · rw [if_neg c26] at H
                                    exact absurd H (by simp)
                                · rw [if_neg c25] at H
                                  exact absurd H (by simp)
                              · rw [if_neg c23] at H
                                exact absurd H (by simp)
                            · rw [if_neg c22] at H
                              have c22b0 : decide (0 < ((rd_T31 l0 x4_1).f4)) = false := decide_eq_false c22
                              clear c22
                              by_cases c33 : ((((x3_2 ++ (⟨#[32, 99, 117, 116, 32]⟩ : ByteArray)) ++ t216) ++ (⟨#[32]⟩ : ByteArray)) ++ t217).size + 1 ≤ 9223372036854775807
                              · rw [if_pos c33] at H
                                have c33bz : (9223372036854775807 < x3_2.size + 5 + t216.size + 1 + t217.size + 1) = False := eq_false (Nat.not_lt.2 (by have h_ := c33; (repeat rw [ByteArray.size_append] at h_); exact h_))
                                have c33b0 := eq_true c33
                                have c33b1 : decide (((((x3_2 ++ (⟨#[32, 99, 117, 116, 32]⟩ : ByteArray)) ++ t216) ++ (⟨#[32]⟩ : ByteArray)) ++ t217).size + 1 ≤ 9223372036854775807) = true := decide_eq_true c33
                                try have c33b2 : (9223372036854775807 < ((((x3_2 ++ (⟨#[32, 99, 117, 116, 32]⟩ : ByteArray)) ++ t216) ++ (⟨#[32]⟩ : ByteArray)) ++ t217).size + 1) = False := eq_false (Nat.not_lt.2 c33)
                                have H' := Aside0.mk H
                                clear H
                                have hcz34_0 : wr.cell? ⟨gb212, 0, none⟩ = some (.int .i64 ((rd_T31 l0 x4_1).f0)) := (blk_cell BK212.out 0).trans rfl
                                have hcz34_1 : wr.cell? ⟨gb212, 1, none⟩ = some (.slice A211_1 ((rd_T31 l0 x4_1).f1).length c211_1) := (blk_cell BK212.out 1).trans rfl
                                have hcz34_2 : wr.cell? ⟨gb212, 2, none⟩ = some (.int .i64 ((rd_T31 l0 x4_1).f2)) := (blk_cell BK212.out 2).trans rfl
                                have hcz34_3 : wr.cell? ⟨gb212, 3, none⟩ = some (.int .i64 ((rd_T31 l0 x4_1).f3)) := (blk_cell BK212.out 3).trans rfl
                                have hcz34_4 : wr.cell? ⟨gb212, 4, none⟩ = some (.int .i64 ((rd_T31 l0 x4_1).f4)) := (blk_cell BK212.out 4).trans rfl
                                have hfz34_0 := blk_frozen BK212.out 0
                                have hfz34_1 := blk_frozen BK212.out 1
                                have hfz34_2 := blk_frozen BK212.out 2
                                have hfz34_3 := blk_frozen BK212.out 3
                                have hfz34_4 := blk_frozen BK212.out 4
                                try go_wp2
                                have n0_ := Aside0.mk (blk_drew BK212.out)
                                have n1_ := Aside0.mk (below_drew1 HB.out)
                                clear BK212
                                clear HB
                                have BK212 := n0_
                                have HB := n1_
                                clear n0_ n1_
                                refine start_ (n := 12) (S := fun w' => w'.cell? ⟨gb212, 0, none⟩ = some (.int .i64 ((rd_T31 l0 x4_1).f0)) ∧ w'.cell? ⟨gb212, 1, none⟩ = some (.slice A211_1 ((rd_T31 l0 x4_1).f1).length c211_1) ∧ w'.cell? ⟨gb212, 2, none⟩ = some (.int .i64 ((rd_T31 l0 x4_1).f2)) ∧ w'.cell? ⟨gb212, 3, none⟩ = some (.int .i64 ((rd_T31 l0 x4_1).f3)) ∧ w'.cell? ⟨gb212, 4, none⟩ = some (.int .i64 ((rd_T31 l0 x4_1).f4))) (ds := []) #[false, false, false, false, false, false, false, false, false, false, false, false] (by kernel_rfl) rfl rfl ⟨(blk_cell BK212.out 0).trans rfl, (blk_cell BK212.out 1).trans rfl, (blk_cell BK212.out 2).trans rfl, (blk_cell BK212.out 3).trans rfl, (blk_cell BK212.out 4).trans rfl⟩ (fun hHeld => ?_); refine with_tabW bootchainref39_Text.tab12 bootchainref39_Text.bits12 (fun HT_ HW_ => ?_)
                                generalize wr.drew = w35 at BK212 HB hHeld ⊢
                                refine pure_ (i := 0) (N := some 41) (v := ?_) (a' := ?_) #[true, false, false, false, false, false, false, false, false, false, false, false] rfl rfl (any_of HT_.out (by kernel_rfl)) (fun _ _ _ h => h) (Or.inl ⟨by rfl, ?_⟩) ?_ ?_
                                rotate_left
                                · intro w'
                                  go_simp
                                  with_reducible rfl
                                rotate_left
                                · simp only [Act.put, List.setIfInBounds_toArray, List.set_cons_zero, List.set_cons_succ, i64_w, i32_w]
                                  rfl
                                refine pure_ (i := 1) (N := some 42) (v := ?_) (a' := ?_) #[true, true, false, false, false, false, false, false, false, false, false, false] rfl rfl (any_of HT_.out (by kernel_rfl)) (fun _ _ _ h => h) (Or.inl ⟨by rfl, ?_⟩) ?_ ?_
                                rotate_left
                                · intro w'
                                  go_simp
                                  with_reducible rfl
                                rotate_left
                                · simp only [Act.put, List.setIfInBounds_toArray, List.set_cons_zero, List.set_cons_succ, i64_w, i32_w]
                                  rfl
                                refine pure_ (i := 2) (N := some 43) (v := ?_) (a' := ?_) #[true, true, true, false, false, false, false, false, false, false, false, false] rfl rfl (any_of HT_.out (by kernel_rfl)) (fun _ _ _ h => h) (Or.inl ⟨by rfl, ?_⟩) ?_ ?_
                                rotate_left
                                · intro w'
                                  go_simp
                                  with_reducible rfl
                                rotate_left
                                · simp only [Act.put, List.setIfInBounds_toArray, List.set_cons_zero, List.set_cons_succ, i64_w, i32_w]
                                  rfl
                                refine pure_ (i := 7) (N := some 48) (v := ?_) (a' := ?_) #[true, true, true, false, false, false, false, true, false, false, false, false] rfl rfl (any_of HT_.out (by kernel_rfl)) (fun _ _ _ h => h) (Or.inl ⟨by rfl, ?_⟩) ?_ ?_
                                rotate_left
                                · intro w'
                                  go_simp
                                  with_reducible rfl
                                rotate_left
                                · simp only [Act.put, List.setIfInBounds_toArray, List.set_cons_zero, List.set_cons_succ, i64_w, i32_w]
                                  rfl
                                refine take_ (i := 3) (N := some 44) (v := ?_) (a' := ?_) #[true, true, true, true, false, false, false, true, false, false, false, false] rfl rfl (take_ofW HT_.out HW_.out (by kernel_rfl)) (fun _ _ _ h => h) (Or.inl ⟨by rfl, ?_⟩) hHeld ?_ ?_
                                rotate_left
                                · rintro w' ⟨s0, s1, s2, s3, s4⟩
                                  go_simp
                                  with_reducible rfl
                                rotate_left
                                · simp only [Act.put, List.setIfInBounds_toArray, List.set_cons_zero, List.set_cons_succ, i64_w, i32_w]
                                  rfl
                                refine take_ (i := 8) (N := some 49) (v := ?_) (a' := ?_) #[true, true, true, true, false, false, false, true, true, false, false, false] rfl rfl (take_ofW HT_.out HW_.out (by kernel_rfl)) (fun _ _ _ h => h) (Or.inl ⟨by rfl, ?_⟩) hHeld ?_ ?_
                                rotate_left
                                · rintro w' ⟨s0, s1, s2, s3, s4⟩
                                  go_simp
                                  with_reducible rfl
                                rotate_left
                                · simp only [Act.put, List.setIfInBounds_toArray, List.set_cons_zero, List.set_cons_succ, i64_w, i32_w]
                                  rfl
                                refine one_ (i := 4) (N := some 45) #[true, true, true, true, true, false, false, true, true, false, false, false] rfl rfl (one_of HT_.out (by kernel_rfl)) (by decide) (fun K hK => ?_)
                                refine goes_ Tryd.func37 (by kernel_rfl) rfl #[.int .i64 ((rd_T31 l0 x4_1).f2)] (by rfl) rfl rfl (by (try simp only [List.map_toArray, List.map_cons, List.map_nil]); first | done | rfl | (simp only [List.length_drop, List.length_take]; rfl)) ?_
                                with_reducible refine (bootchainref39_Decimal.calls k2 ((rd_T31 l0 x4_1).f2) t216 _ A17.out).mono ?_
                                rintro e w36 ⟨rfl, hb⟩
                                refine ⟨_, rfl, ?_⟩
                                have n0_ := Aside0.mk (blk_below (g := gb212) (o := .cells #[.int .i64 ((rd_T31 l0 x4_1).f0), .slice A211_1 ((rd_T31 l0 x4_1).f1).length c211_1, .int .i64 ((rd_T31 l0 x4_1).f2), .int .i64 ((rd_T31 l0 x4_1).f3), .int .i64 ((rd_T31 l0 x4_1).f4)] 31 (0, 0)) (by (with_reducible repeat (first | refine blk_drewN ?_ _ | refine blk_drew ?_ | refine blk_alloc ?_ _)); exact BK212.out) hb)
                                have n1_ := Aside0.mk (below_step (by repeat (first | (with_reducible first | exact HB.out | apply below_alloc | apply pw_below_drewN | apply below_drew1 | refine below_set ?_ GE212.out) | exact HB.out)) hb)
                                clear BK212
                                clear HB
                                have BK212 := n0_
                                have HB := n1_
                                clear n0_ n1_
                                (try clear hb)
                                (try clear hb2)
                                (try clear hk)
                                (try clear hi)
                                refine hK.out _ _ ⟨(blk_cell BK212.out 0).trans rfl, (blk_cell BK212.out 1).trans rfl, (blk_cell BK212.out 2).trans rfl, (blk_cell BK212.out 3).trans rfl, (blk_cell BK212.out 4).trans rfl⟩ (fun hHeld => ?_)
                                clear hK K
                                refine norm_ (a' := ?_) ?_ ?_
                                rotate_left
                                · show Act.put _ (some 45) _ = _
                                  simp only [Act.put, List.setIfInBounds_toArray, List.set_cons_zero, List.set_cons_succ, i64_w, i32_w]
                                  rfl
                                refine pure_ (i := 5) (N := some 46) (v := ?_) (a' := ?_) #[true, true, true, true, true, true, false, true, true, false, false, false] rfl rfl (any_of HT_.out (by kernel_rfl)) (fun _ _ _ h => h) (Or.inl ⟨by rfl, ?_⟩) ?_ ?_
                                rotate_left
                                · intro w'
                                  go_simp
                                  with_reducible rfl
                                rotate_left
                                · simp only [Act.put, List.setIfInBounds_toArray, List.set_cons_zero, List.set_cons_succ, i64_w, i32_w]
                                  rfl
                                refine pure_ (i := 6) (N := some 47) (v := ?_) (a' := ?_) #[true, true, true, true, true, true, true, true, true, false, false, false] rfl rfl (any_of HT_.out (by kernel_rfl)) (fun _ _ _ h => h) (Or.inl ⟨by rfl, ?_⟩) ?_ ?_
                                rotate_left
                                · intro w'
                                  go_simp
                                  with_reducible rfl
                                rotate_left
                                · simp only [Act.put, List.setIfInBounds_toArray, List.set_cons_zero, List.set_cons_succ, i64_w, i32_w]
                                  rfl
                                refine one_ (i := 9) (N := some 50) #[true, true, true, true, true, true, true, true, true, true, false, false] rfl rfl (one_of HT_.out (by kernel_rfl)) (by decide) (fun K hK => ?_)
                                refine goes_ Tryd.func37 (by kernel_rfl) rfl #[.int .i64 ((rd_T31 l0 x4_1).f3)] (by rfl) rfl rfl (by (try simp only [List.map_toArray, List.map_cons, List.map_nil]); first | done | rfl | (simp only [List.length_drop, List.length_take]; rfl)) ?_
                                with_reducible refine (bootchainref39_Decimal.calls k2 ((rd_T31 l0 x4_1).f3) t217 _ A20.out).mono ?_
                                rintro e w37 ⟨rfl, hb⟩
                                refine ⟨_, rfl, ?_⟩
                                have n0_ := Aside0.mk (blk_below (g := gb212) (o := .cells #[.int .i64 ((rd_T31 l0 x4_1).f0), .slice A211_1 ((rd_T31 l0 x4_1).f1).length c211_1, .int .i64 ((rd_T31 l0 x4_1).f2), .int .i64 ((rd_T31 l0 x4_1).f3), .int .i64 ((rd_T31 l0 x4_1).f4)] 31 (0, 0)) (by (with_reducible repeat (first | refine blk_drewN ?_ _ | refine blk_drew ?_ | refine blk_alloc ?_ _)); exact BK212.out) hb)
                                have n1_ := Aside0.mk (below_step (by repeat (first | (with_reducible first | exact HB.out | apply below_alloc | apply pw_below_drewN | apply below_drew1 | refine below_set ?_ GE212.out) | exact HB.out)) hb)
                                clear BK212
                                clear HB
                                have BK212 := n0_
                                have HB := n1_
                                clear n0_ n1_
                                (try clear hb)
                                (try clear hb2)
                                (try clear hk)
                                (try clear hi)
                                refine hK.out _ _ ⟨(blk_cell BK212.out 0).trans rfl, (blk_cell BK212.out 1).trans rfl, (blk_cell BK212.out 2).trans rfl, (blk_cell BK212.out 3).trans rfl, (blk_cell BK212.out 4).trans rfl⟩ (fun hHeld => ?_)
                                clear hK K
                                refine norm_ (a' := ?_) ?_ ?_
                                rotate_left
                                · show Act.put _ (some 50) _ = _
                                  simp only [Act.put, List.setIfInBounds_toArray, List.set_cons_zero, List.set_cons_succ, i64_w, i32_w]
                                  rfl
                                refine pure_ (i := 10) (N := some 51) (v := ?_) (a' := ?_) #[true, true, true, true, true, true, true, true, true, true, true, false] rfl rfl (any_of HT_.out (by kernel_rfl)) (fun _ _ _ h => h) (Or.inl ⟨by rfl, ?_⟩) ?_ ?_
                                rotate_left
                                · intro w'
                                  go_simp
                                  with_reducible rfl
                                rotate_left
                                · simp only [Act.put, List.setIfInBounds_toArray, List.set_cons_zero, List.set_cons_succ, i64_w, i32_w]
                                  rfl
                                refine pure_ (i := 11) (N := some 3) (v := ?_) (a' := ?_) #[true, true, true, true, true, true, true, true, true, true, true, true] rfl rfl (any_of HT_.out (by kernel_rfl)) (fun _ _ _ h => h) (Or.inl ⟨by rfl, ?_⟩) ?_ ?_
                                rotate_left
                                · intro w'
                                  go_simp
                                  with_reducible rfl
                                rotate_left
                                · simp only [Act.put, List.setIfInBounds_toArray, List.set_cons_zero, List.set_cons_succ, i64_w, i32_w]
                                  rfl
                                refine done_ (done_of HT_.out (by kernel_rfl)) ?_
                                have hcz38_0 : w37.cell? ⟨gb212, 0, none⟩ = some (.int .i64 ((rd_T31 l0 x4_1).f0)) := (blk_cell BK212.out 0).trans rfl
                                have hcz38_1 : w37.cell? ⟨gb212, 1, none⟩ = some (.slice A211_1 ((rd_T31 l0 x4_1).f1).length c211_1) := (blk_cell BK212.out 1).trans rfl
                                have hcz38_2 : w37.cell? ⟨gb212, 2, none⟩ = some (.int .i64 ((rd_T31 l0 x4_1).f2)) := (blk_cell BK212.out 2).trans rfl
                                have hcz38_3 : w37.cell? ⟨gb212, 3, none⟩ = some (.int .i64 ((rd_T31 l0 x4_1).f3)) := (blk_cell BK212.out 3).trans rfl
                                have hcz38_4 : w37.cell? ⟨gb212, 4, none⟩ = some (.int .i64 ((rd_T31 l0 x4_1).f4)) := (blk_cell BK212.out 4).trans rfl
                                have hfz38_0 := blk_frozen BK212.out 0
                                have hfz38_1 := blk_frozen BK212.out 1
                                have hfz38_2 := blk_frozen BK212.out 2
                                have hfz38_3 := blk_frozen BK212.out 3
                                have hfz38_4 := blk_frozen BK212.out 4
                                try go_wp2
                                go_roundg k2
                                case measure => have := HK1.out; have := HK2.out; omega
                                case rel => exact ⟨(((((x3_2 ++ (⟨#[32, 99, 117, 116, 32]⟩ : ByteArray)) ++ t216) ++ (⟨#[32]⟩ : ByteArray)) ++ t217) ++ (⟨#[10]⟩ : ByteArray)), (wrap64 (x4_1 + 1)), (by first | rfl | (simp; done) | (simp [*]; done)), (by first | rfl | (simp; done) | (simp [*]; done)), H', ⟨by have := HK1.out; have := HK2.out; omega⟩, ⟨by repeat (first | (with_reducible first | exact HB.out | apply below_alloc | apply pw_below_drewN | apply below_drew1 | refine below_set ?_ GE212.out) | exact HB.out)⟩⟩
                              · rw [if_neg c33] at H
                                exact absurd H (by simp)
                          · rw [if_neg c21] at H
                            exact absurd H (by simp)
                        · rw [if_neg c19] at H
                          exact absurd H (by simp)
                      · rw [if_neg c18] at H
                        exact absurd H (by simp)
                    · rw [if_neg c16] at H
                      exact absurd H (by simp)
                  · rw [if_neg c15] at H
                    have c15b0 : decide (0 ≤ ((rd_T31 l0 x4_1).f2)) = false := decide_eq_false c15
                    clear c15
                    by_cases c39 : ((rd_T31 l0 x4_1).f4) > 0
                    · rw [if_pos c39] at H
                      have c39b0 : decide (0 < ((rd_T31 l0 x4_1).f4)) = true := decide_eq_true c39
                      clear c39
                      by_cases c40 : x3_2.size + 7 ≤ 9223372036854775807
                      · rw [if_pos c40] at H
                        have c40b0 := eq_true c40
                        have c40b1 : decide (x3_2.size + 7 ≤ 9223372036854775807) = true := decide_eq_true c40
                        try have c40b2 : (9223372036854775807 < x3_2.size + 7) = False := eq_false (Nat.not_lt.2 c40)
                        replace H := Option.bind_eq_some_iff.mp H
                        obtain ⟨t219, A410, H⟩ := H
                        replace H : (if (x3_2 ++ (⟨#[32, 110, 111, 105, 115, 101, 32]⟩ : ByteArray)).size + t219.size ≤ 9223372036854775807 then (if ((x3_2 ++ (⟨#[32, 110, 111, 105, 115, 101, 32]⟩ : ByteArray)) ++ t219).size + 1 ≤ 9223372036854775807 then (bootchainref39_Text.l0 k2 l0 (((x3_2 ++ (⟨#[32, 110, 111, 105, 115, 101, 32]⟩ : ByteArray)) ++ t219) ++ (⟨#[10]⟩ : ByteArray)) (wrap64 (x4_1 + 1))) else (none)) else (none)) = some r := H
                        have A41 := Aside0.mk A410
                        clear A410
                        by_cases c42 : (x3_2 ++ (⟨#[32, 110, 111, 105, 115, 101, 32]⟩ : ByteArray)).size + t219.size ≤ 9223372036854775807
                        · rw [if_pos c42] at H
                          have c42bz : (9223372036854775807 < x3_2.size + 7 + t219.size) = False := eq_false (Nat.not_lt.2 (by have h_ := c42; (repeat rw [ByteArray.size_append] at h_); exact h_))
                          have c42b0 := eq_true c42
                          have c42b1 : decide ((x3_2 ++ (⟨#[32, 110, 111, 105, 115, 101, 32]⟩ : ByteArray)).size + t219.size ≤ 9223372036854775807) = true := decide_eq_true c42
                          try have c42b2 : (9223372036854775807 < (x3_2 ++ (⟨#[32, 110, 111, 105, 115, 101, 32]⟩ : ByteArray)).size + t219.size) = False := eq_false (Nat.not_lt.2 c42)
                          by_cases c43 : ((x3_2 ++ (⟨#[32, 110, 111, 105, 115, 101, 32]⟩ : ByteArray)) ++ t219).size + 1 ≤ 9223372036854775807
                          · rw [if_pos c43] at H
                            have c43bz : (9223372036854775807 < x3_2.size + 7 + t219.size + 1) = False := eq_false (Nat.not_lt.2 (by have h_ := c43; (repeat rw [ByteArray.size_append] at h_); exact h_))
                            have c43b0 := eq_true c43
                            have c43b1 : decide (((x3_2 ++ (⟨#[32, 110, 111, 105, 115, 101, 32]⟩ : ByteArray)) ++ t219).size + 1 ≤ 9223372036854775807) = true := decide_eq_true c43
                            try have c43b2 : (9223372036854775807 < ((x3_2 ++ (⟨#[32, 110, 111, 105, 115, 101, 32]⟩ : ByteArray)) ++ t219).size + 1) = False := eq_false (Nat.not_lt.2 c43)
                            have H' := Aside0.mk H
                            clear H
                            have hcz44_0 : wr.cell? ⟨gb212, 0, none⟩ = some (.int .i64 ((rd_T31 l0 x4_1).f0)) := (blk_cell BK212.out 0).trans rfl
                            have hcz44_1 : wr.cell? ⟨gb212, 1, none⟩ = some (.slice A211_1 ((rd_T31 l0 x4_1).f1).length c211_1) := (blk_cell BK212.out 1).trans rfl
                            have hcz44_2 : wr.cell? ⟨gb212, 2, none⟩ = some (.int .i64 ((rd_T31 l0 x4_1).f2)) := (blk_cell BK212.out 2).trans rfl
                            have hcz44_3 : wr.cell? ⟨gb212, 3, none⟩ = some (.int .i64 ((rd_T31 l0 x4_1).f3)) := (blk_cell BK212.out 3).trans rfl
                            have hcz44_4 : wr.cell? ⟨gb212, 4, none⟩ = some (.int .i64 ((rd_T31 l0 x4_1).f4)) := (blk_cell BK212.out 4).trans rfl
                            have hfz44_0 := blk_frozen BK212.out 0
                            have hfz44_1 := blk_frozen BK212.out 1
                            have hfz44_2 := blk_frozen BK212.out 2
                            have hfz44_3 := blk_frozen BK212.out 3
                            have hfz44_4 := blk_frozen BK212.out 4
                            go_wp2_with (first | ((with_reducible refine gate_callee (f := 37) rfl ?_); refine goesL_ (some 59) rfl rfl Tryd.func37 (by kernel_rfl) rfl #[.int .i64 ((rd_T31 l0 x4_1).f4)] rfl (by (try simp only [List.map_toArray, List.map_cons, List.map_nil]); first | done | rfl | (simp only [List.length_drop, List.length_take]; rfl)) ?_; (with_reducible refine (bootchainref39_Decimal.calls k2 ((rd_T31 l0 x4_1).f4) t219 _ A41.out).mono ?_); rintro e w45 ⟨rfl, hb⟩; refine ⟨_, rfl, ?_⟩; have n0_ := Aside0.mk (blk_below (g := gb212) (o := .cells #[.int .i64 ((rd_T31 l0 x4_1).f0), .slice A211_1 ((rd_T31 l0 x4_1).f1).length c211_1, .int .i64 ((rd_T31 l0 x4_1).f2), .int .i64 ((rd_T31 l0 x4_1).f3), .int .i64 ((rd_T31 l0 x4_1).f4)] 31 (0, 0)) (by (with_reducible repeat (first | refine blk_drewN ?_ _ | refine blk_drew ?_ | refine blk_alloc ?_ _)); exact BK212.out) hb); have n1_ := Aside0.mk (below_step (by repeat (first | (with_reducible first | exact HB.out | apply below_alloc | apply pw_below_drewN | apply below_drew1 | refine below_set ?_ GE212.out) | exact HB.out)) hb); clear BK212; clear HB; have BK212 := n0_; have HB := n1_; clear n0_ n1_; (try clear hb); (try clear hb2); (try clear hk); (try clear hi)))
                            go_roundg k2
                            case measure => have := HK1.out; have := HK2.out; omega
                            case rel => exact ⟨(((x3_2 ++ (⟨#[32, 110, 111, 105, 115, 101, 32]⟩ : ByteArray)) ++ t219) ++ (⟨#[10]⟩ : ByteArray)), (wrap64 (x4_1 + 1)), (by first | rfl | (simp; done) | (simp [*]; done)), (by first | rfl | (simp; done) | (simp [*]; done)), H', ⟨by have := HK1.out; have := HK2.out; omega⟩, ⟨by repeat (first | (with_reducible first | exact HB.out | apply below_alloc | apply pw_below_drewN | apply below_drew1 | refine below_set ?_ GE212.out) | exact HB.out)⟩⟩
                          · rw [if_neg c43] at H
                            exact absurd H (by simp)
                        · rw [if_neg c42] at H
                          exact absurd H (by simp)
                      · rw [if_neg c40] at H
                        exact absurd H (by simp)
                    · rw [if_neg c39] at H
                      have c39b0 : decide (0 < ((rd_T31 l0 x4_1).f4)) = false := decide_eq_false c39
                      clear c39
                      by_cases c46 : x3_2.size + 1 ≤ 9223372036854775807
                      · rw [if_pos c46] at H
                        have c46b0 := eq_true c46
                        have c46b1 : decide (x3_2.size + 1 ≤ 9223372036854775807) = true := decide_eq_true c46
                        try have c46b2 : (9223372036854775807 < x3_2.size + 1) = False := eq_false (Nat.not_lt.2 c46)
                        have H' := Aside0.mk H
                        clear H
                        have hcz47_0 : wr.cell? ⟨gb212, 0, none⟩ = some (.int .i64 ((rd_T31 l0 x4_1).f0)) := (blk_cell BK212.out 0).trans rfl
                        have hcz47_1 : wr.cell? ⟨gb212, 1, none⟩ = some (.slice A211_1 ((rd_T31 l0 x4_1).f1).length c211_1) := (blk_cell BK212.out 1).trans rfl
                        have hcz47_2 : wr.cell? ⟨gb212, 2, none⟩ = some (.int .i64 ((rd_T31 l0 x4_1).f2)) := (blk_cell BK212.out 2).trans rfl
                        have hcz47_3 : wr.cell? ⟨gb212, 3, none⟩ = some (.int .i64 ((rd_T31 l0 x4_1).f3)) := (blk_cell BK212.out 3).trans rfl
                        have hcz47_4 : wr.cell? ⟨gb212, 4, none⟩ = some (.int .i64 ((rd_T31 l0 x4_1).f4)) := (blk_cell BK212.out 4).trans rfl
                        have hfz47_0 := blk_frozen BK212.out 0
                        have hfz47_1 := blk_frozen BK212.out 1
                        have hfz47_2 := blk_frozen BK212.out 2
                        have hfz47_3 := blk_frozen BK212.out 3
                        have hfz47_4 := blk_frozen BK212.out 4
                        go_wp2
                        go_roundg k2
                        case measure => have := HK1.out; have := HK2.out; omega
                        case rel => exact ⟨(x3_2 ++ (⟨#[10]⟩ : ByteArray)), (wrap64 (x4_1 + 1)), (by first | rfl | (simp; done) | (simp [*]; done)), (by first | rfl | (simp; done) | (simp [*]; done)), H', ⟨by have := HK1.out; have := HK2.out; omega⟩, ⟨by repeat (first | (with_reducible first | exact HB.out | apply below_alloc | apply pw_below_drewN | apply below_drew1 | refine below_set ?_ GE212.out) | exact HB.out)⟩⟩
                      · rw [if_neg c46] at H
                        exact absurd H (by simp)
          · rw [if_neg c5] at H
            exact absurd H (by simp)
        · rw [if_neg c3] at H
          exact absurd H (by simp)
      · rw [if_neg c2] at H
        have c2b0 : decide (x4_1 < (l0.length : Int)) = false := decide_eq_false c2
        clear c2
        obtain rfl := Option.some.inj H
        go_wp2
        go_ret
        exact ⟨by first | rfl | (simp [errW_none, errW_some] <;> rfl) | (simp [*, errW_none, errW_some] <;> rfl), by repeat (first | (with_reducible first | exact HB.out | apply below_alloc | apply pw_below_drewN | apply below_drew1) | exact HB.out)⟩

end Go.Proofs.YtinmehodkeofaaaDoor.Q
