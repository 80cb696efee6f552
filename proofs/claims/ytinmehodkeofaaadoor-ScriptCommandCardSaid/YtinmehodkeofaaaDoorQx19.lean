-- Written by a program of this session (wip/extprint.py), which runs the kit's print over contracts of our own.
import Derived.Test.YtinmehodkeofaaaDoorQx0
import Derived.Test.YtinmehodkeofaaaDoorQx18
namespace Go.Proofs.YtinmehodkeofaaaDoor.Q
open Go.RowKit Go.Proofs.YtinmehodkeofaaaDoorW.PrintWords Go.Proofs.YtinmehodkeofaaaDoorW.PrintLast Go.Proofs.YtinmehodkeofaaaDoorW.PrintMore
attribute [local go_sem] max2_int min2_int max_two min_two max_three min_three max_four min_four   -- for this text's walks alone
set_option linter.unusedVariables false
set_option linter.unusedSimpArgs false

/-! ### bootchainref39_Faults: function 21 -/
mutual
def bootchainref39_Faults.j0 : Nat → Int → Bool → Int → List Int → Int → Int → Int → Option ((List (S42)))
  | 0, _, _, _, _, _, _, _ => none
  | k + 1, x1, x12, x223000, x223001, x223002, x223003, x223004 => if x12 = true then (some ([] : List (S42))) else (if 0 ≤ x1 then (if (x1 : Int).toNat ≤ 11728124029610 then (bootchainref39_Faults.l0 k x1 (List.replicate (x1 : Int).toNat z42) 0 x223000 x223001 x223002 x223003 x223004) else (none)) else (none))
def bootchainref39_Faults.l0 : Nat → Int → List (S42) → Int → Int → List Int → Int → Int → Int → Option ((List (S42)))
  | 0, _, _, _, _, _, _, _, _ => none
  | k + 1, x1, x5, x6, x223000, x223001, x223002, x223003, x223004 => if x6 < x1 then ((bootchainref39_Bit.f k x223004 (Int.tmod x6 16)).bind fun t226 => (if 0 ≤ x6 then (if x6 < (x5.length : Int) then ((some (x5.set (x6 : Int).toNat (⟨(rd_T42 x5 x6).f0, (rd_T42 x5 x6).f1, t226⟩ : S42) : List (S42))).bind fun y227 => (if x6 = x223002 then ((some (y227.set (x6 : Int).toNat (⟨true, (rd_T42 y227 x6).f1, (rd_T42 y227 x6).f2⟩ : S42) : List (S42))).bind fun y228 => (bootchainref39_Faults.l0 k x1 (y228.set (x6 : Int).toNat (⟨(rd_T42 y228 x6).f0, x223003, (rd_T42 y228 x6).f2⟩ : S42)) (wrap64 (x6 + 1)) x223000 x223001 x223002 x223003 x223004)) else (bootchainref39_Faults.l0 k x1 y227 (wrap64 (x6 + 1)) x223000 x223001 x223002 x223003 x223004))) else (none)) else (none))) else (some x5)
end
def bootchainref39_Faults.f (k : Nat) (a0_0 : Int) (l0_1 : List Int) (a0_2 : Int) (a0_3 : Int) (a0_4 : Int) (a1 : Int) : Option ((List (S42))) := if a1 < 0 then (bootchainref39_Faults.j0 k a1 true a0_0 l0_1 a0_2 a0_3 a0_4) else (bootchainref39_Faults.j0 k a1 (decide (a1 > 65536)) a0_0 l0_1 a0_2 a0_3 a0_4)
theorem bootchainref39_Faults.mono_l : ∀ k, (∀ y0 y1 y2 y3 y4 y5 y6, LeO (bootchainref39_Faults.j0 k y0 y1 y2 y3 y4 y5 y6) (bootchainref39_Faults.j0 (k + 1) y0 y1 y2 y3 y4 y5 y6)) ∧ (∀ y0 y1 y2 y3 y4 y5 y6 y7, LeO (bootchainref39_Faults.l0 k y0 y1 y2 y3 y4 y5 y6 y7) (bootchainref39_Faults.l0 (k + 1) y0 y1 y2 y3 y4 y5 y6 y7))
  | 0 => ⟨fun _ _ _ _ _ _ _ r h => by simp [bootchainref39_Faults.j0] at h, fun _ _ _ _ _ _ _ _ r h => by simp [bootchainref39_Faults.l0] at h⟩
  | k + 1 => by
    obtain ⟨ih0, ih1⟩ := bootchainref39_Faults.mono_l k
    refine ⟨?_, ?_⟩
    · intro y0 y1 y2 y3 y4 y5 y6
      unfold bootchainref39_Faults.j0
      repeat' first
      | (with_reducible exact ih0 _ _ _ _ _ _ _)
      | (with_reducible exact ih1 _ _ _ _ _ _ _ _)
      | (with_reducible exact bootchainref39_Bit.mono _ _ _)
      | (with_reducible exact LeO.refl _)
      | (with_reducible exact LeO.none _)
      | (with_reducible refine LeO.ite ?_ ?_)
      | (with_reducible refine LeO.bind ?_ (fun _ => ?_))
      | exact ih0 _ _ _ _ _ _ _
      | exact ih1 _ _ _ _ _ _ _ _
      | exact bootchainref39_Bit.mono _ _ _
      | exact LeO.none _
      | refine LeO.ite ?_ ?_
      | refine LeO.bind ?_ (fun _ => ?_)
    · intro y0 y1 y2 y3 y4 y5 y6 y7
      unfold bootchainref39_Faults.l0
      repeat' first
      | (with_reducible exact ih0 _ _ _ _ _ _ _)
      | (with_reducible exact ih1 _ _ _ _ _ _ _ _)
      | (with_reducible exact bootchainref39_Bit.mono _ _ _)
      | (with_reducible exact LeO.refl _)
      | (with_reducible exact LeO.none _)
      | (with_reducible refine LeO.ite ?_ ?_)
      | (with_reducible refine LeO.bind ?_ (fun _ => ?_))
      | exact ih0 _ _ _ _ _ _ _
      | exact ih1 _ _ _ _ _ _ _ _
      | exact bootchainref39_Bit.mono _ _ _
      | exact LeO.none _
      | refine LeO.ite ?_ ?_
      | refine LeO.bind ?_ (fun _ => ?_)
theorem bootchainref39_Faults.mono : ∀ a0 a1 a2 a3 a4 a5 k, LeO (bootchainref39_Faults.f k a0 a1 a2 a3 a4 a5) (bootchainref39_Faults.f (k + 1) a0 a1 a2 a3 a4 a5) := by
  intro a0 a1 a2 a3 a4 a5 k
  obtain ⟨ih0, ih1⟩ := bootchainref39_Faults.mono_l k
  unfold bootchainref39_Faults.f
  repeat' first
      | (with_reducible exact ih0 _ _ _ _ _ _ _)
      | (with_reducible exact ih1 _ _ _ _ _ _ _ _)
      | (with_reducible exact bootchainref39_Bit.mono _ _ _)
      | (with_reducible exact LeO.refl _)
      | (with_reducible exact LeO.none _)
      | (with_reducible refine LeO.ite ?_ ?_)
      | (with_reducible refine LeO.bind ?_ (fun _ => ?_))
      | exact ih0 _ _ _ _ _ _ _
      | exact ih1 _ _ _ _ _ _ _ _
      | exact bootchainref39_Bit.mono _ _ _
      | exact LeO.none _
      | refine LeO.ite ?_ ?_
      | refine LeO.bind ?_ (fun _ => ?_)
set_option maxHeartbeats 8000000 in
set_option maxRecDepth 100000 in
theorem bootchainref39_Faults.calls (k : Nat) (a0_0 : Int) (A0_1 : Option Addr) (c0_1 : Nat) (l0_1 : List Int) (a0_2 : Int) (a0_3 : Int) (a0_4 : Int) (a1 : Int) (r : List (S42)) (w : World) (hr0_1 : Kd.C (Kd.int .i64) w A0_1 l0_1.length l0_1) (hc0_1 : l0_1.length ≤ c0_1) (h : bootchainref39_Faults.f k a0_0 l0_1 a0_2 a0_3 a0_4 a1 = some r) :
    Calls Tryd.prog 21 #[.agg #[.int .i64 a0_0, .slice A0_1 l0_1.length c0_1, .int .i64 a0_2, .int .i64 a0_3, .int .i64 a0_4], .int .i64 a1] w fun e w' => ∃ v0_ : Value, e = .returned (v0_) ∧ Kd.R k42 42 w' w.heap.size (fun _ => True) v0_ r ∧ Below w.heap.size w w' := by
  have hu31 := Tryd.underlying31
  have HR0_1 := Aside0.mk hr0_1
  have HC0_1 := Aside0.mk hc0_1
  clear hr0_1 hc0_1
  have HB := Aside0.mk (Below.refl w.heap.size w)
  have H : (if a1 < 0 then (bootchainref39_Faults.j0 k a1 true a0_0 l0_1 a0_2 a0_3 a0_4) else (bootchainref39_Faults.j0 k a1 (decide (a1 > 65536)) a0_0 l0_1 a0_2 a0_3 a0_4)) = some r := h
  clear h
  have HC3 := Aside0.mk H
  clear H
  go_enter Tryd.func21, Tryd.ntmps21
  go_upto_region 1 with (first | ((with_reducible refine gate_dst (N := 2) rfl ?_); refine box_event ?hg (N := 2) ?hd (cs := #[.int .i64 a0_0, .slice A0_1 l0_1.length c0_1, .int .i64 a0_2, .int .i64 a0_3, .int .i64 a0_4]) (t := 31) ?hr ?_; (case hd => rfl); (case hg => rfl); (case hr => first | (go_simp; done) | (go_simp; rfl)); intro gb222 hg w4 hbox hb; have n0_ := Aside0.mk (below_step (by repeat (first | (with_reducible first | exact HB.out | apply below_alloc | apply pw_below_drewN | apply below_drew1) | exact HB.out)) hb); have n1_ := Aside0.mk (hbox); have n2_ := Aside0.mk ((by rw [hg]; exact (below_size (by repeat (first | (with_reducible first | exact HB.out | apply below_alloc | apply pw_below_drewN | apply below_drew1) | exact HB.out))) : w.heap.size ≤ gb222)); have n3_ := Aside0.mk ((by rw [hg]; exact (below_size (by repeat (first | (with_reducible first | exact HB.out | apply below_alloc | apply pw_below_drewN | apply below_drew1) | exact HB.out))) : w.heap.size ≤ gb222)); clear HB; have HB := n0_; have BK222 := n1_; have GW222 := n2_; have GE222 := n3_; clear n0_ n1_ n2_ n3_; clear hb hbox hg))
  (try simp only [Act.put, List.setIfInBounds_toArray, List.set_cons_zero, List.set_cons_succ])
  go_cut [12] (fun v12 wc => ∃ (kq : Nat) (x12_2 : Bool), v12 = .bool x12_2 ∧ Aside0 (bootchainref39_Faults.j0 kq a1 x12_2 a0_0 l0_1 a0_2 a0_3 a0_4 = some r) ∧ Aside0 (kq ≤ k) ∧ Aside0 (wc.heap[gb222]? = some (.cells #[.int .i64 a0_0, (.slice A0_1 l0_1.length c0_1), .int .i64 a0_2, .int .i64 a0_3, .int .i64 a0_4] 31 (0, 0))) ∧ Aside0 (Below w.heap.size w wc))
  case first =>
    have H := HC3.out
    clear HC3
    by_cases c5 : a1 < 0
    · rw [if_pos c5] at H
      have c5b0 : decide (a1 < 0) = true := decide_eq_true c5
      clear c5
      (first | rw [c5b0] | (simp only [i64_w, i32_w]; rw [c5b0]) | skip)
      have H' := Aside0.mk H
      clear H
      go_wp2
      go_meet
      case rel => exact ⟨_, (true), (by first | rfl | (simp; done) | (simp [*]; done)), H', ⟨by first | omega | exact Nat.le_refl _⟩, ⟨by (with_reducible repeat (first | refine blk_drewN ?_ _ | refine blk_drew ?_ | refine blk_alloc ?_ _)); exact BK222.out⟩, ⟨by repeat (first | (with_reducible first | exact HB.out | apply below_alloc | apply pw_below_drewN | apply below_drew1 | refine below_set ?_ GE222.out) | exact HB.out)⟩⟩
    · rw [if_neg c5] at H
      have c5b0 : decide (a1 < 0) = false := decide_eq_false c5
      clear c5
      (first | rw [c5b0] | (simp only [i64_w, i32_w]; rw [c5b0]) | skip)
      have H' := Aside0.mk H
      clear H
      go_wp2
      go_meet
      case rel => exact ⟨_, (decide (a1 > 65536)), (by first | rfl | (simp; done) | (simp [*]; done)), H', ⟨by first | omega | exact Nat.le_refl _⟩, ⟨by (with_reducible repeat (first | refine blk_drewN ?_ _ | refine blk_drew ?_ | refine blk_alloc ?_ _)); exact BK222.out⟩, ⟨by repeat (first | (with_reducible first | exact HB.out | apply below_alloc | apply pw_below_drewN | apply below_drew1 | refine below_set ?_ GE222.out) | exact HB.out)⟩⟩
  case rest =>
    clear HC3
    try clear c2
    try clear p2
    try clear c5
    try clear c5b0
    obtain ⟨kq, x12_2, rfl, HA, HJ2, BK222, HB⟩ := hcut
    cases kq with
    | zero => exact absurd HA.out (by simp [bootchainref39_Faults.j0])
    | succ kj2 =>
      have H := HA.out
      clear HA
      simp only [bootchainref39_Faults.j0] at H
      by_cases c6 : x12_2 = true
      · subst c6
        have H1 : (some ([] : List (S42))) = some r := by rw [if_pos rfl] at H; exact H
        clear H
        have H := H1
        clear H1
        obtain rfl := Option.some.inj H
        go_wp2
        go_ret
        exact ⟨_, by first | rfl | (simp [errW_none, errW_some] <;> rfl) | (simp [*, errW_none, errW_some] <;> rfl), by first | exact Kd.R_nil _ _ _ _ _ | exact Kd.N_nil _ _ _ _ _ | exact Kd.V_nil _ _ _ _ _ | exact Kd.Q_nil _ _ _ _ _ | exact Kd.S_nil _ _ _ _ _, by repeat (first | (with_reducible first | exact HB.out | apply below_alloc | apply pw_below_drewN | apply below_drew1 | refine below_set ?_ GE222.out) | exact HB.out)⟩
      · replace c6 := Bool.eq_false_iff.mpr c6
        subst c6
        have H1 : (if 0 ≤ a1 then (if (a1 : Int).toNat ≤ 11728124029610 then (bootchainref39_Faults.l0 kj2 a1 (List.replicate (a1 : Int).toNat z42) 0 a0_0 l0_1 a0_2 a0_3 a0_4) else (none)) else (none)) = some r := by rw [if_neg (show ¬ (false = true) by decide)] at H; exact H
        clear H
        have H := H1
        clear H1
        by_cases c7 : 0 ≤ a1
        · rw [if_pos c7] at H
          have c7b0 := eq_true c7
          have c7b1 : decide (0 ≤ a1) = true := decide_eq_true c7
          clear c7
          by_cases c8 : (a1 : Int).toNat ≤ 11728124029610
          · rw [if_pos c8] at H
            have c8b0 := eq_true c8
            have c8b1 : decide ((a1 : Int).toNat ≤ 11728124029610) = true := decide_eq_true c8
            clear c8
            obtain ⟨y223, hy223⟩ : ∃ y_ : List (S42), y_ = (List.replicate (a1 : Int).toNat z42) := ⟨_, rfl⟩
            replace H : (bootchainref39_Faults.l0 kj2 a1 y223 0 a0_0 l0_1 a0_2 a0_3 a0_4) = some r := by first | (rw [hy223]; with_reducible exact H) | (have H2_ := (Option.bind_some _ _).symm.trans H; rw [hy223]; with_reducible exact H2_) | (have H2_ := (Option.bind_some _ _).symm.trans H; with_reducible exact H2_) | with_reducible exact H | (rw [hy223]; exact H) | exact H
            have Ny223 := Aside0.mk hy223
            clear hy223
            have H' := Aside0.mk H
            clear H
            go_wp2_with (first | ((with_reducible refine gate_dst (N := 14) rfl ?_); refine Kd.R_make k42 _ 42 rfl (N := 14) rfl 36 _ _ rfl a1 rfl rfl Tryd.underlying36 (.agg #[(.bool false), (.int .i64 0), (.bool false)]) 24 info42 rfl (by decide) (by omega) z42 (ok := fun _ => True) (okp := fun _ => True) (k42_mkM _ _ _ z42 ) (fun _ hk => hk) trivial (of_decide_eq_true (by first | (with_reducible assumption) | assumption)) (Nat.le_trans (Nat.mul_le_mul_right _ (of_decide_eq_true (by first | (with_reducible assumption) | assumption) : a1.toNat ≤ 11728124029610)) (by omega)) (Below.refl _ _) (Nat.le_refl _) ?_; intro v224 w9 ho10 hb hg_ hnew_; clear hg_ hnew_; (first | rw [← Ny223.out] at ho10 | (simp only [Int.reduceToNat] at ho10; rw [← Ny223.out] at ho10)); have n0_ := Aside0.mk (Kd.R_lower ho10 (below_size (by repeat (first | (with_reducible first | exact HB.out | apply below_alloc | apply pw_below_drewN | apply below_drew1 | refine below_set ?_ GE222.out) | exact HB.out)))); have n1_ := Aside0.mk (blk_below (g := gb222) (o := .cells #[.int .i64 a0_0, .slice A0_1 l0_1.length c0_1, .int .i64 a0_2, .int .i64 a0_3, .int .i64 a0_4] 31 (0, 0)) (by (with_reducible repeat (first | refine blk_drewN ?_ _ | refine blk_drew ?_ | refine blk_alloc ?_ _)); exact BK222.out) hb); have n2_ := Aside0.mk (below_step (by repeat (first | (with_reducible first | exact HB.out | apply below_alloc | apply pw_below_drewN | apply below_drew1 | refine below_set ?_ GE222.out) | exact HB.out)) hb); clear BK222; clear HB; have HO225 := n0_; have BK222 := n1_; have HB := n2_; clear n0_ n1_ n2_; clear hb ho10))
            go_loopg [6] kj2 (fun kq v6 w' => ∃ (x5_2 : List (S42)) (x6_2 : Int), v6 = .int .i64 x6_2 ∧ Aside0 (bootchainref39_Faults.l0 kq a1 x5_2 x6_2 a0_0 l0_1 a0_2 a0_3 a0_4 = some r) ∧ Aside0 (kq ≤ kj2) ∧ Aside0 (Kd.R k42 42 w' w.heap.size (fun _ => True) v224 x5_2) ∧ Aside0 (w'.heap[gb222]? = some (.cells #[.int .i64 a0_0, (.slice A0_1 l0_1.length c0_1), .int .i64 a0_2, .int .i64 a0_3, .int .i64 a0_4] 31 (0, 0))) ∧ Aside0 (Below w.heap.size w w'))
            case atStart => exact ⟨(y223), (0), (by first | rfl | (simp; done) | (simp [*]; done)), H', ⟨Nat.le_refl _⟩, ⟨by (with_reducible repeat (first | apply Kd.R_alloc | apply Kd.R_drewN | apply Kd.R_drew)); exact HO225.out⟩, ⟨by (with_reducible repeat (first | refine blk_drewN ?_ _ | refine blk_drew ?_ | refine blk_alloc ?_ _)); exact BK222.out⟩, ⟨by repeat (first | (with_reducible first | exact HB.out | apply below_alloc | apply pw_below_drewN | apply below_drew1 | refine below_set ?_ GE222.out) | exact HB.out)⟩⟩
            case round =>
              clear H'
              try clear c2
              try clear p2
              try clear c5
              try clear c5b0
              try clear c6
              try clear c7
              try clear c7b0
              try clear c7b1
              try clear c8
              try clear c8b0
              try clear c8b1
              try clear p2
              obtain ⟨x5_2, x6_2, rfl, HA, HK2, HO_5, BK222, HB⟩ := hrel
              cases gk with
              | zero => exact absurd HA.out (by simp [bootchainref39_Faults.l0])
              | succ k2 =>
                have H := HA.out
                clear HA
                simp only [bootchainref39_Faults.l0] at H
                by_cases c11 : x6_2 < a1
                · rw [if_pos c11] at H
                  have c11b0 : decide (x6_2 < a1) = true := decide_eq_true c11
                  clear c11
                  replace H := Option.bind_eq_some_iff.mp H
                  obtain ⟨t226, A120, H⟩ := H
                  replace H : (if 0 ≤ x6_2 then (if x6_2 < (x5_2.length : Int) then ((some (x5_2.set (x6_2 : Int).toNat (⟨(rd_T42 x5_2 x6_2).f0, (rd_T42 x5_2 x6_2).f1, t226⟩ : S42) : List (S42))).bind fun y227 => (if x6_2 = a0_2 then ((some (y227.set (x6_2 : Int).toNat (⟨true, (rd_T42 y227 x6_2).f1, (rd_T42 y227 x6_2).f2⟩ : S42) : List (S42))).bind fun y228 => (bootchainref39_Faults.l0 k2 a1 (y228.set (x6_2 : Int).toNat (⟨(rd_T42 y228 x6_2).f0, a0_3, (rd_T42 y228 x6_2).f2⟩ : S42)) (wrap64 (x6_2 + 1)) a0_0 l0_1 a0_2 a0_3 a0_4)) else (bootchainref39_Faults.l0 k2 a1 y227 (wrap64 (x6_2 + 1)) a0_0 l0_1 a0_2 a0_3 a0_4))) else (none)) else (none)) = some r := H
                  have A12 := Aside0.mk A120
                  clear A120
                  by_cases c13 : 0 ≤ x6_2
                  · rw [if_pos c13] at H
                    have c13b0 : decide (0 ≤ x6_2) = true := decide_eq_true c13
                    clear c13
                    by_cases c14 : x6_2 < (x5_2.length : Int)
                    · rw [if_pos c14] at H
                      have c14b0 : decide (x6_2 < (x5_2.length : Int)) = true := decide_eq_true c14
                      clear c14
                      obtain ⟨y227, hy227⟩ : ∃ y_ : List (S42), y_ = (x5_2.set (x6_2 : Int).toNat (⟨(rd_T42 x5_2 x6_2).f0, (rd_T42 x5_2 x6_2).f1, t226⟩ : S42)) := ⟨_, rfl⟩
                      replace H : (if x6_2 = a0_2 then ((some (y227.set (x6_2 : Int).toNat (⟨true, (rd_T42 y227 x6_2).f1, (rd_T42 y227 x6_2).f2⟩ : S42) : List (S42))).bind fun y228 => (bootchainref39_Faults.l0 k2 a1 (y228.set (x6_2 : Int).toNat (⟨(rd_T42 y228 x6_2).f0, a0_3, (rd_T42 y228 x6_2).f2⟩ : S42)) (wrap64 (x6_2 + 1)) a0_0 l0_1 a0_2 a0_3 a0_4)) else (bootchainref39_Faults.l0 k2 a1 y227 (wrap64 (x6_2 + 1)) a0_0 l0_1 a0_2 a0_3 a0_4)) = some r := by first | (rw [hy227]; with_reducible exact H) | (have H2_ := (Option.bind_some _ _).symm.trans H; rw [hy227]; with_reducible exact H2_) | (have H2_ := (Option.bind_some _ _).symm.trans H; with_reducible exact H2_) | with_reducible exact H | (rw [hy227]; exact H) | exact H
                      have Ny227 := Aside0.mk hy227
                      clear hy227
                      by_cases c16 : x6_2 = a0_2
                      · rw [if_pos c16] at H
                        have c16b0 : (x6_2 == a0_2) = true := beq_iff_eq.mpr c16
                        have c16b1 : (x6_2 != a0_2) = false := bne_eq_false_iff_eq.mpr c16
                        clear c16
                        obtain ⟨y228, hy228⟩ : ∃ y_ : List (S42), y_ = (y227.set (x6_2 : Int).toNat (⟨true, (rd_T42 y227 x6_2).f1, (rd_T42 y227 x6_2).f2⟩ : S42)) := ⟨_, rfl⟩
                        replace H : (bootchainref39_Faults.l0 k2 a1 (y228.set (x6_2 : Int).toNat (⟨(rd_T42 y228 x6_2).f0, a0_3, (rd_T42 y228 x6_2).f2⟩ : S42)) (wrap64 (x6_2 + 1)) a0_0 l0_1 a0_2 a0_3 a0_4) = some r := by first | (rw [hy228]; with_reducible exact H) | (have H2_ := (Option.bind_some _ _).symm.trans H; rw [hy228]; with_reducible exact H2_) | (have H2_ := (Option.bind_some _ _).symm.trans H; with_reducible exact H2_) | with_reducible exact H | (rw [hy228]; exact H) | exact H
                        have Ny228 := Aside0.mk hy228
                        clear hy228
                        obtain ⟨y229, hy229⟩ : ∃ y_ : List (S42), y_ = (y228.set (x6_2 : Int).toNat (⟨(rd_T42 y228 x6_2).f0, a0_3, (rd_T42 y228 x6_2).f2⟩ : S42)) := ⟨_, rfl⟩
                        replace H : (bootchainref39_Faults.l0 k2 a1 y229 (wrap64 (x6_2 + 1)) a0_0 l0_1 a0_2 a0_3 a0_4) = some r := by first | (rw [hy229]; with_reducible exact H) | (have H2_ := (Option.bind_some _ _).symm.trans H; rw [hy229]; with_reducible exact H2_) | (have H2_ := (Option.bind_some _ _).symm.trans H; with_reducible exact H2_) | with_reducible exact H | (rw [hy229]; exact H) | exact H
                        have Ny229 := Aside0.mk hy229
                        clear hy229
                        have H' := Aside0.mk H
                        clear H
                        have hcz19_0 : wr.cell? ⟨gb222, 0, none⟩ = some (.int .i64 a0_0) := (blk_cell BK222.out 0).trans rfl
                        have hcz19_1 : wr.cell? ⟨gb222, 1, none⟩ = some (.slice A0_1 l0_1.length c0_1) := (blk_cell BK222.out 1).trans rfl
                        have hcz19_2 : wr.cell? ⟨gb222, 2, none⟩ = some (.int .i64 a0_2) := (blk_cell BK222.out 2).trans rfl
                        have hcz19_3 : wr.cell? ⟨gb222, 3, none⟩ = some (.int .i64 a0_3) := (blk_cell BK222.out 3).trans rfl
                        have hcz19_4 : wr.cell? ⟨gb222, 4, none⟩ = some (.int .i64 a0_4) := (blk_cell BK222.out 4).trans rfl
                        have hfz19_0 := blk_frozen BK222.out 0
                        have hfz19_1 := blk_frozen BK222.out 1
                        have hfz19_2 := blk_frozen BK222.out 2
                        have hfz19_3 := blk_frozen BK222.out 3
                        have hfz19_4 := blk_frozen BK222.out 4
                        go_wp2_with (first | ((with_reducible refine gate_callee (f := 38) rfl ?_); refine goesL_ (some 26) rfl rfl Tryd.func38 (by kernel_rfl) rfl #[.int .i64 a0_4, .int .i64 (Int.tmod x6_2 16)] rfl (by (try simp only [List.map_toArray, List.map_cons, List.map_nil]); first | done | rfl | (simp only [List.length_drop, List.length_take]; rfl)) ?_; (with_reducible refine (bootchainref39_Bit.calls k2 a0_4 (Int.tmod x6_2 16) t226 _ A12.out).mono ?_); rintro e w' ⟨rfl, ⟨nd, rfl⟩⟩; refine ⟨_, rfl, ?_⟩; (try (rw [drewN_self wr]; generalize hq_ : World.drewN wr _ = wr; have n0_ : Aside0 (Kd.R k42 42 wr w.heap.size (fun _ => True) v224 x5_2) := ⟨by rw [← hq_]; exact (by (with_reducible repeat (first | apply Kd.R_alloc | apply Kd.R_drewN | apply Kd.R_drew)); exact HO_5.out)⟩; have n1_ : Aside0 (wr.heap[gb222]? = some (.cells #[.int .i64 a0_0, .slice A0_1 l0_1.length c0_1, .int .i64 a0_2, .int .i64 a0_3, .int .i64 a0_4] 31 (0, 0))) := ⟨by rw [← hq_]; exact (by (with_reducible repeat (first | refine blk_drewN ?_ _ | refine blk_drew ?_ | refine blk_alloc ?_ _)); exact BK222.out)⟩; have n2_ : Aside0 (Below w.heap.size w wr) := ⟨by rw [← hq_]; exact (by repeat (first | (with_reducible first | exact HB.out | apply below_alloc | apply pw_below_drewN | apply below_drew1 | refine below_set ?_ GE222.out) | exact HB.out))⟩; clear HO_5 BK222 HB hq_; have HO_5 := n0_; have BK222 := n1_; have HB := n2_; clear n0_ n1_ n2_)); have p15 : 0 ≤ (x6_2 : Int) := of_decide_eq_true (by first | (with_reducible assumption) | assumption); have q15 : (x6_2 : Int) < ((x5_2.length : Int) : Int) := of_decide_eq_true (by first | (with_reducible assumption) | assumption); obtain ⟨go15, co15, eo15, gb15, gl15, cl15, HG15⟩ := Kd.R_form HO_5.out (by omega); (first | cases eo15 | (injection eo15 with ea_ en_ ec_; (first | subst ea_ | (injection ea_ with ea_; subst ea_)); subst ec_; clear en_)); have GB15 := Aside0.mk gb15; have GG15 := Aside0.mk HG15; clear gb15 gl15 HG15; obtain ⟨ce15, hcl15, hM15, hcc15, hfr15⟩ := Kd.R_elem HO_5.out z42 (x6_2 : Int) p15 q15; obtain rfl := k42_openM hM15; have hx15_0 : wr.cell? ⟨go15, (x6_2 : Int).toNat * 3, none⟩ = some (.bool ((rd_T42 x5_2 x6_2).f0)) := hcc15 0 _ rfl; have hx15_1 : wr.cell? ⟨go15, (x6_2 : Int).toNat * 3 + 1, none⟩ = some (.int .i64 ((rd_T42 x5_2 x6_2).f1)) := hcc15 1 _ rfl; have hx15_2 : wr.cell? ⟨go15, (x6_2 : Int).toNat * 3 + 2, none⟩ = some (.bool ((rd_T42 x5_2 x6_2).f2)) := hcc15 2 _ rfl; have hf15_0 : wr.frozen? ⟨go15, (x6_2 : Int).toNat * 3, none⟩ = false := hfr15 0; have hf15_1 : wr.frozen? ⟨go15, (x6_2 : Int).toNat * 3 + 1, none⟩ = false := hfr15 1; have hf15_2 : wr.frozen? ⟨go15, (x6_2 : Int).toNat * 3 + 2, none⟩ = false := hfr15 2; clear hcl15 hcc15 hfr15 hM15; replace p15 := eq_true p15; replace q15 := eq_true q15; have HX20 := Aside0.mk (show Kd.R k42 42 wr w.heap.size (fun _ => True) (.slice (some ⟨go15, 0, none⟩) x5_2.length co15) x5_2 from (by (with_reducible repeat (first | apply Kd.R_alloc | apply Kd.R_drewN | apply Kd.R_drew)); exact HO_5.out)); obtain ⟨ce20, hcl20, hM20, hcc20, hfr20⟩ := Kd.R_elem HX20.out z42 (x6_2 : Int) (of_decide_eq_true (by first | (with_reducible assumption) | assumption)) (by have h_ : (x6_2 : Int) < ((x5_2.length : Int) : Int) := of_decide_eq_true (by first | (with_reducible assumption) | assumption); first | exact h_ | (have e_ := (Kd.R_reads' HO_5.out).1; omega) | simpa using h_); obtain rfl := k42_openM hM20; have HP20 := Kd.R_seg HX20.out (x6_2 : Int) (of_decide_eq_true (by first | (with_reducible assumption) | assumption)) (by have h_ : (x6_2 : Int) < ((x5_2.length : Int) : Int) := of_decide_eq_true (by first | (with_reducible assumption) | assumption); first | exact h_ | (have e_ := (Kd.R_reads' HO_5.out).1; omega) | simpa using h_) (seg := [.bool t226]) (j := 2) hcl20 hcc20 (show 3 ≤ 3 from by decide) (x' := (⟨(rd_T42 x5_2 x6_2).f0, (rd_T42 x5_2 x6_2).f1, t226⟩ : S42)) (k42_mkM _ _ _ (⟨(rd_T42 x5_2 x6_2).f0, (rd_T42 x5_2 x6_2).f1, t226⟩ : S42) ) (fun _ hk => hk); have hx20_2 := hcc20 2 _ rfl; (try simp only [show (k42).sz = 3 from rfl, Nat.mul_one, Nat.add_zero] at hx20_2); have hf20_2 := hfr20 2; (try simp only [show (k42).sz = 3 from rfl, Nat.mul_one, Nat.add_zero] at hf20_2); clear hcl20 hcc20 hfr20 hM20) | ((with_reducible refine gate_store (t := 4) (p := 28) rfl ?_); refine store_event (t := 4) (p := 28) (v := ?vo_w21) (w1 := (wr.setCell ⟨go15, (x6_2 : Int).toNat * 3 + 2, none⟩ (.bool t226))) ?hg ?ho ?hn ?hr ?_; (case ho => rfl); (case hg => rfl); (case hn => rfl); (case hr => first | (go_simp; done) | (go_simp; rfl)); intro w21 hw; have hg : wr.grownBy w21 (some go15) := (by rw [hw]; exact HP20.2); have hp_ : Kd.R k42 42 w21 w.heap.size (fun _ => True) (.slice (some ⟨go15, 0, none⟩) x5_2.length co15) y227 := (by rw [hw, Ny227.out]; exact HP20.1); clear HP20; have n0_ := Aside0.mk (hp_); have n1_ := Aside0.mk (blk_grown (g := gb222) (o := .cells #[.int .i64 a0_0, .slice A0_1 l0_1.length c0_1, .int .i64 a0_2, .int .i64 a0_3, .int .i64 a0_4] 31 (0, 0)) (by (with_reducible repeat (first | refine blk_drewN ?_ _ | refine blk_drew ?_ | refine blk_alloc ?_ _)); exact BK222.out) hg (Kd.R_ne HO_5.out BK222.out (by decide))); have n2_ := Aside0.mk ((by rw [hw]; exact below_set (HB.out) GB15.out : Below w.heap.size w w21)); clear HO_5; clear BK222; clear HB; have HO_5 := n0_; have BK222 := n1_; have HB := n2_; clear n0_ n1_ n2_; clear hg hw hp_; have hcz22_0 : w21.cell? ⟨gb222, 0, none⟩ = some (.int .i64 a0_0) := (blk_cell BK222.out 0).trans rfl; have hcz22_1 : w21.cell? ⟨gb222, 1, none⟩ = some (.slice A0_1 l0_1.length c0_1) := (blk_cell BK222.out 1).trans rfl; have hcz22_2 : w21.cell? ⟨gb222, 2, none⟩ = some (.int .i64 a0_2) := (blk_cell BK222.out 2).trans rfl; have hcz22_3 : w21.cell? ⟨gb222, 3, none⟩ = some (.int .i64 a0_3) := (blk_cell BK222.out 3).trans rfl; have hcz22_4 : w21.cell? ⟨gb222, 4, none⟩ = some (.int .i64 a0_4) := (blk_cell BK222.out 4).trans rfl; have hfz22_0 := blk_frozen BK222.out 0; have hfz22_1 := blk_frozen BK222.out 1; have hfz22_2 := blk_frozen BK222.out 2; have hfz22_3 := blk_frozen BK222.out 3; have hfz22_4 := blk_frozen BK222.out 4; have p17 : 0 ≤ (x6_2 : Int) := of_decide_eq_true (by first | (with_reducible assumption) | assumption); have q17 : (x6_2 : Int) < ((x5_2.length : Int) : Int) := of_decide_eq_true (by first | (with_reducible assumption) | assumption); obtain ⟨ce17, hcl17, hM17, hcc17, hfr17⟩ := Kd.R_elem HO_5.out z42 (x6_2 : Int) p17 q17; obtain rfl := k42_openM hM17; have hx17_0 : w21.cell? ⟨go15, (x6_2 : Int).toNat * 3, none⟩ = some (.bool ((rd_T42 y227 x6_2).f0)) := hcc17 0 _ rfl; have hx17_1 : w21.cell? ⟨go15, (x6_2 : Int).toNat * 3 + 1, none⟩ = some (.int .i64 ((rd_T42 y227 x6_2).f1)) := hcc17 1 _ rfl; have hx17_2 : w21.cell? ⟨go15, (x6_2 : Int).toNat * 3 + 2, none⟩ = some (.bool ((rd_T42 y227 x6_2).f2)) := hcc17 2 _ rfl; have hf17_0 : w21.frozen? ⟨go15, (x6_2 : Int).toNat * 3, none⟩ = false := hfr17 0; have hf17_1 : w21.frozen? ⟨go15, (x6_2 : Int).toNat * 3 + 1, none⟩ = false := hfr17 1; have hf17_2 : w21.frozen? ⟨go15, (x6_2 : Int).toNat * 3 + 2, none⟩ = false := hfr17 2; clear hcl17 hcc17 hfr17 hM17; replace p17 := eq_true p17; replace q17 := eq_true q17; have HX23 := Aside0.mk (show Kd.R k42 42 w21 w.heap.size (fun _ => True) (.slice (some ⟨go15, 0, none⟩) x5_2.length co15) y227 from (by (with_reducible repeat (first | apply Kd.R_alloc | apply Kd.R_drewN | apply Kd.R_drew)); exact HO_5.out)); obtain ⟨ce23, hcl23, hM23, hcc23, hfr23⟩ := Kd.R_elem HX23.out z42 (x6_2 : Int) (of_decide_eq_true (by first | (with_reducible assumption) | assumption)) (by have h_ : (x6_2 : Int) < ((x5_2.length : Int) : Int) := of_decide_eq_true (by first | (with_reducible assumption) | assumption); first | exact h_ | (have e_ := (Kd.R_reads' HO_5.out).1; omega) | simpa using h_); obtain rfl := k42_openM hM23; have HP23 := Kd.R_seg HX23.out (x6_2 : Int) (of_decide_eq_true (by first | (with_reducible assumption) | assumption)) (by have h_ : (x6_2 : Int) < ((x5_2.length : Int) : Int) := of_decide_eq_true (by first | (with_reducible assumption) | assumption); first | exact h_ | (have e_ := (Kd.R_reads' HO_5.out).1; omega) | simpa using h_) (seg := [.bool true]) (j := 0) hcl23 hcc23 (show 1 ≤ 3 from by decide) (x' := (⟨true, (rd_T42 y227 x6_2).f1, (rd_T42 y227 x6_2).f2⟩ : S42)) (k42_mkM _ _ _ (⟨true, (rd_T42 y227 x6_2).f1, (rd_T42 y227 x6_2).f2⟩ : S42) ) (fun _ hk => hk); have hx23_0 := hcc23 0 _ rfl; (try simp only [show (k42).sz = 3 from rfl, Nat.mul_one, Nat.add_zero] at hx23_0); have hf23_0 := hfr23 0; (try simp only [show (k42).sz = 3 from rfl, Nat.mul_one, Nat.add_zero] at hf23_0); clear hcl23 hcc23 hfr23 hM23) | ((with_reducible refine gate_store (t := 4) (p := 36) rfl ?_); refine store_event (t := 4) (p := 36) (v := ?vo_w24) (w1 := (w21.setCell ⟨go15, (x6_2 : Int).toNat * 3, none⟩ (.bool true))) ?hg ?ho ?hn ?hr ?_; (case ho => rfl); (case hg => rfl); (case hn => rfl); (case hr => first | (go_simp; done) | (go_simp; rfl)); intro w24 hw; have hg : w21.grownBy w24 (some go15) := (by rw [hw]; exact HP23.2); have hp_ : Kd.R k42 42 w24 w.heap.size (fun _ => True) (.slice (some ⟨go15, 0, none⟩) x5_2.length co15) y228 := (by rw [hw, Ny228.out]; exact HP23.1); clear HP23; have n0_ := Aside0.mk (hp_); have n1_ := Aside0.mk (blk_grown (g := gb222) (o := .cells #[.int .i64 a0_0, .slice A0_1 l0_1.length c0_1, .int .i64 a0_2, .int .i64 a0_3, .int .i64 a0_4] 31 (0, 0)) (by (with_reducible repeat (first | refine blk_drewN ?_ _ | refine blk_drew ?_ | refine blk_alloc ?_ _)); exact BK222.out) hg (Kd.R_ne HO_5.out BK222.out (by decide))); have n2_ := Aside0.mk ((by rw [hw]; exact below_set (HB.out) GB15.out : Below w.heap.size w w24)); clear HO_5; clear BK222; clear HB; have HO_5 := n0_; have BK222 := n1_; have HB := n2_; clear n0_ n1_ n2_; clear hg hw hp_; have hcz25_0 : w24.cell? ⟨gb222, 0, none⟩ = some (.int .i64 a0_0) := (blk_cell BK222.out 0).trans rfl; have hcz25_1 : w24.cell? ⟨gb222, 1, none⟩ = some (.slice A0_1 l0_1.length c0_1) := (blk_cell BK222.out 1).trans rfl; have hcz25_2 : w24.cell? ⟨gb222, 2, none⟩ = some (.int .i64 a0_2) := (blk_cell BK222.out 2).trans rfl; have hcz25_3 : w24.cell? ⟨gb222, 3, none⟩ = some (.int .i64 a0_3) := (blk_cell BK222.out 3).trans rfl; have hcz25_4 : w24.cell? ⟨gb222, 4, none⟩ = some (.int .i64 a0_4) := (blk_cell BK222.out 4).trans rfl; have hfz25_0 := blk_frozen BK222.out 0; have hfz25_1 := blk_frozen BK222.out 1; have hfz25_2 := blk_frozen BK222.out 2; have hfz25_3 := blk_frozen BK222.out 3; have hfz25_4 := blk_frozen BK222.out 4; have p18 : 0 ≤ (x6_2 : Int) := of_decide_eq_true (by first | (with_reducible assumption) | assumption); have q18 : (x6_2 : Int) < ((x5_2.length : Int) : Int) := of_decide_eq_true (by first | (with_reducible assumption) | assumption); obtain ⟨ce18, hcl18, hM18, hcc18, hfr18⟩ := Kd.R_elem HO_5.out z42 (x6_2 : Int) p18 q18; obtain rfl := k42_openM hM18; have hx18_0 : w24.cell? ⟨go15, (x6_2 : Int).toNat * 3, none⟩ = some (.bool ((rd_T42 y228 x6_2).f0)) := hcc18 0 _ rfl; have hx18_1 : w24.cell? ⟨go15, (x6_2 : Int).toNat * 3 + 1, none⟩ = some (.int .i64 ((rd_T42 y228 x6_2).f1)) := hcc18 1 _ rfl; have hx18_2 : w24.cell? ⟨go15, (x6_2 : Int).toNat * 3 + 2, none⟩ = some (.bool ((rd_T42 y228 x6_2).f2)) := hcc18 2 _ rfl; have hf18_0 : w24.frozen? ⟨go15, (x6_2 : Int).toNat * 3, none⟩ = false := hfr18 0; have hf18_1 : w24.frozen? ⟨go15, (x6_2 : Int).toNat * 3 + 1, none⟩ = false := hfr18 1; have hf18_2 : w24.frozen? ⟨go15, (x6_2 : Int).toNat * 3 + 2, none⟩ = false := hfr18 2; clear hcl18 hcc18 hfr18 hM18; replace p18 := eq_true p18; replace q18 := eq_true q18; have HX26 := Aside0.mk (show Kd.R k42 42 w24 w.heap.size (fun _ => True) (.slice (some ⟨go15, 0, none⟩) x5_2.length co15) y228 from (by (with_reducible repeat (first | apply Kd.R_alloc | apply Kd.R_drewN | apply Kd.R_drew)); exact HO_5.out)); obtain ⟨ce26, hcl26, hM26, hcc26, hfr26⟩ := Kd.R_elem HX26.out z42 (x6_2 : Int) (of_decide_eq_true (by first | (with_reducible assumption) | assumption)) (by have h_ : (x6_2 : Int) < ((x5_2.length : Int) : Int) := of_decide_eq_true (by first | (with_reducible assumption) | assumption); first | exact h_ | (have e_ := (Kd.R_reads' HO_5.out).1; omega) | simpa using h_); obtain rfl := k42_openM hM26; have HP26 := Kd.R_seg HX26.out (x6_2 : Int) (of_decide_eq_true (by first | (with_reducible assumption) | assumption)) (by have h_ : (x6_2 : Int) < ((x5_2.length : Int) : Int) := of_decide_eq_true (by first | (with_reducible assumption) | assumption); first | exact h_ | (have e_ := (Kd.R_reads' HO_5.out).1; omega) | simpa using h_) (seg := [.int .i64 a0_3]) (j := 1) hcl26 hcc26 (show 2 ≤ 3 from by decide) (x' := (⟨(rd_T42 y228 x6_2).f0, a0_3, (rd_T42 y228 x6_2).f2⟩ : S42)) (k42_mkM _ _ _ (⟨(rd_T42 y228 x6_2).f0, a0_3, (rd_T42 y228 x6_2).f2⟩ : S42) ) (fun _ hk => hk); have hx26_1 := hcc26 1 _ rfl; (try simp only [show (k42).sz = 3 from rfl, Nat.mul_one, Nat.add_zero] at hx26_1); have hf26_1 := hfr26 1; (try simp only [show (k42).sz = 3 from rfl, Nat.mul_one, Nat.add_zero] at hf26_1); clear hcl26 hcc26 hfr26 hM26) | ((with_reducible refine gate_store (t := 3) (p := 42) rfl ?_); refine store_event (t := 3) (p := 42) (v := ?vo_w27) (w1 := (w24.setCell ⟨go15, (x6_2 : Int).toNat * 3 + 1, none⟩ (.int .i64 a0_3))) ?hg ?ho ?hn ?hr ?_; (case ho => rfl); (case hg => rfl); (case hn => rfl); (case hr => first | (go_simp; done) | (go_simp; rfl)); intro w27 hw; have hg : w24.grownBy w27 (some go15) := (by rw [hw]; exact HP26.2); have hp_ : Kd.R k42 42 w27 w.heap.size (fun _ => True) (.slice (some ⟨go15, 0, none⟩) x5_2.length co15) y229 := (by rw [hw, Ny229.out]; exact HP26.1); clear HP26; have n0_ := Aside0.mk (hp_); have n1_ := Aside0.mk (blk_grown (g := gb222) (o := .cells #[.int .i64 a0_0, .slice A0_1 l0_1.length c0_1, .int .i64 a0_2, .int .i64 a0_3, .int .i64 a0_4] 31 (0, 0)) (by (with_reducible repeat (first | refine blk_drewN ?_ _ | refine blk_drew ?_ | refine blk_alloc ?_ _)); exact BK222.out) hg (Kd.R_ne HO_5.out BK222.out (by decide))); have n2_ := Aside0.mk ((by rw [hw]; exact below_set (HB.out) GB15.out : Below w.heap.size w w27)); clear HO_5; clear BK222; clear HB; have HO_5 := n0_; have BK222 := n1_; have HB := n2_; clear n0_ n1_ n2_; clear hg hw hp_))
                        go_roundg k2
                        case measure => have := HJ2.out; have := HK2.out; omega
                        case rel => exact ⟨(y229), (wrap64 (x6_2 + 1)), (by first | rfl | (simp; done) | (simp [*]; done)), H', ⟨by have := HJ2.out; have := HK2.out; omega⟩, ⟨by (with_reducible repeat (first | apply Kd.R_alloc | apply Kd.R_drewN | apply Kd.R_drew)); exact HO_5.out⟩, ⟨by (with_reducible repeat (first | refine blk_drewN ?_ _ | refine blk_drew ?_ | refine blk_alloc ?_ _)); exact BK222.out⟩, ⟨by repeat (first | (with_reducible first | exact HB.out | apply below_alloc | apply pw_below_drewN | apply below_drew1 | refine below_set ?_ GE222.out) | exact HB.out)⟩⟩
                      · rw [if_neg c16] at H
                        have c16b0 : (x6_2 == a0_2) = false := beq_eq_false_iff_ne.mpr c16
                        have c16b1 : (x6_2 != a0_2) = true := bne_iff_ne.mpr c16
                        have H' := Aside0.mk H
                        clear H
                        have hcz28_0 : wr.cell? ⟨gb222, 0, none⟩ = some (.int .i64 a0_0) := (blk_cell BK222.out 0).trans rfl
                        have hcz28_1 : wr.cell? ⟨gb222, 1, none⟩ = some (.slice A0_1 l0_1.length c0_1) := (blk_cell BK222.out 1).trans rfl
                        have hcz28_2 : wr.cell? ⟨gb222, 2, none⟩ = some (.int .i64 a0_2) := (blk_cell BK222.out 2).trans rfl
                        have hcz28_3 : wr.cell? ⟨gb222, 3, none⟩ = some (.int .i64 a0_3) := (blk_cell BK222.out 3).trans rfl
                        have hcz28_4 : wr.cell? ⟨gb222, 4, none⟩ = some (.int .i64 a0_4) := (blk_cell BK222.out 4).trans rfl
                        have hfz28_0 := blk_frozen BK222.out 0
                        have hfz28_1 := blk_frozen BK222.out 1
                        have hfz28_2 := blk_frozen BK222.out 2
                        have hfz28_3 := blk_frozen BK222.out 3
                        have hfz28_4 := blk_frozen BK222.out 4
                        go_wp2_with (first | ((with_reducible refine gate_callee (f := 38) rfl ?_); refine goesL_ (some 26) rfl rfl Tryd.func38 (by kernel_rfl) rfl #[.int .i64 a0_4, .int .i64 (Int.tmod x6_2 16)] rfl (by (try simp only [List.map_toArray, List.map_cons, List.map_nil]); first | done | rfl | (simp only [List.length_drop, List.length_take]; rfl)) ?_; (with_reducible refine (bootchainref39_Bit.calls k2 a0_4 (Int.tmod x6_2 16) t226 _ A12.out).mono ?_); rintro e w' ⟨rfl, ⟨nd, rfl⟩⟩; refine ⟨_, rfl, ?_⟩; (try (rw [drewN_self wr]; generalize hq_ : World.drewN wr _ = wr; have n0_ : Aside0 (Kd.R k42 42 wr w.heap.size (fun _ => True) v224 x5_2) := ⟨by rw [← hq_]; exact (by (with_reducible repeat (first | apply Kd.R_alloc | apply Kd.R_drewN | apply Kd.R_drew)); exact HO_5.out)⟩; have n1_ : Aside0 (wr.heap[gb222]? = some (.cells #[.int .i64 a0_0, .slice A0_1 l0_1.length c0_1, .int .i64 a0_2, .int .i64 a0_3, .int .i64 a0_4] 31 (0, 0))) := ⟨by rw [← hq_]; exact (by (with_reducible repeat (first | refine blk_drewN ?_ _ | refine blk_drew ?_ | refine blk_alloc ?_ _)); exact BK222.out)⟩; have n2_ : Aside0 (Below w.heap.size w wr) := ⟨by rw [← hq_]; exact (by repeat (first | (with_reducible first | exact HB.out | apply below_alloc | apply pw_below_drewN | apply below_drew1 | refine below_set ?_ GE222.out) | exact HB.out))⟩; clear HO_5 BK222 HB hq_; have HO_5 := n0_; have BK222 := n1_; have HB := n2_; clear n0_ n1_ n2_)); have p15 : 0 ≤ (x6_2 : Int) := of_decide_eq_true (by first | (with_reducible assumption) | assumption); have q15 : (x6_2 : Int) < ((x5_2.length : Int) : Int) := of_decide_eq_true (by first | (with_reducible assumption) | assumption); obtain ⟨go15, co15, eo15, gb15, gl15, cl15, HG15⟩ := Kd.R_form HO_5.out (by omega); (first | cases eo15 | (injection eo15 with ea_ en_ ec_; (first | subst ea_ | (injection ea_ with ea_; subst ea_)); subst ec_; clear en_)); have GB15 := Aside0.mk gb15; have GG15 := Aside0.mk HG15; clear gb15 gl15 HG15; obtain ⟨ce15, hcl15, hM15, hcc15, hfr15⟩ := Kd.R_elem HO_5.out z42 (x6_2 : Int) p15 q15; obtain rfl := k42_openM hM15; have hx15_0 : wr.cell? ⟨go15, (x6_2 : Int).toNat * 3, none⟩ = some (.bool ((rd_T42 x5_2 x6_2).f0)) := hcc15 0 _ rfl; have hx15_1 : wr.cell? ⟨go15, (x6_2 : Int).toNat * 3 + 1, none⟩ = some (.int .i64 ((rd_T42 x5_2 x6_2).f1)) := hcc15 1 _ rfl; have hx15_2 : wr.cell? ⟨go15, (x6_2 : Int).toNat * 3 + 2, none⟩ = some (.bool ((rd_T42 x5_2 x6_2).f2)) := hcc15 2 _ rfl; have hf15_0 : wr.frozen? ⟨go15, (x6_2 : Int).toNat * 3, none⟩ = false := hfr15 0; have hf15_1 : wr.frozen? ⟨go15, (x6_2 : Int).toNat * 3 + 1, none⟩ = false := hfr15 1; have hf15_2 : wr.frozen? ⟨go15, (x6_2 : Int).toNat * 3 + 2, none⟩ = false := hfr15 2; clear hcl15 hcc15 hfr15 hM15; replace p15 := eq_true p15; replace q15 := eq_true q15; have HX29 := Aside0.mk (show Kd.R k42 42 wr w.heap.size (fun _ => True) (.slice (some ⟨go15, 0, none⟩) x5_2.length co15) x5_2 from (by (with_reducible repeat (first | apply Kd.R_alloc | apply Kd.R_drewN | apply Kd.R_drew)); exact HO_5.out)); obtain ⟨ce29, hcl29, hM29, hcc29, hfr29⟩ := Kd.R_elem HX29.out z42 (x6_2 : Int) (of_decide_eq_true (by first | (with_reducible assumption) | assumption)) (by have h_ : (x6_2 : Int) < ((x5_2.length : Int) : Int) := of_decide_eq_true (by first | (with_reducible assumption) | assumption); first | exact h_ | (have e_ := (Kd.R_reads' HO_5.out).1; omega) | simpa using h_); obtain rfl := k42_openM hM29; have HP29 := Kd.R_seg HX29.out (x6_2 : Int) (of_decide_eq_true (by first | (with_reducible assumption) | assumption)) (by have h_ : (x6_2 : Int) < ((x5_2.length : Int) : Int) := of_decide_eq_true (by first | (with_reducible assumption) | assumption); first | exact h_ | (have e_ := (Kd.R_reads' HO_5.out).1; omega) | simpa using h_) (seg := [.bool t226]) (j := 2) hcl29 hcc29 (show 3 ≤ 3 from by decide) (x' := (⟨(rd_T42 x5_2 x6_2).f0, (rd_T42 x5_2 x6_2).f1, t226⟩ : S42)) (k42_mkM _ _ _ (⟨(rd_T42 x5_2 x6_2).f0, (rd_T42 x5_2 x6_2).f1, t226⟩ : S42) ) (fun _ hk => hk); have hx29_2 := hcc29 2 _ rfl; (try simp only [show (k42).sz = 3 from rfl, Nat.mul_one, Nat.add_zero] at hx29_2); have hf29_2 := hfr29 2; (try simp only [show (k42).sz = 3 from rfl, Nat.mul_one, Nat.add_zero] at hf29_2); clear hcl29 hcc29 hfr29 hM29) | ((with_reducible refine gate_store (t := 4) (p := 28) rfl ?_); refine store_event (t := 4) (p := 28) (v := ?vo_w30) (w1 := (wr.setCell ⟨go15, (x6_2 : Int).toNat * 3 + 2, none⟩ (.bool t226))) ?hg ?ho ?hn ?hr ?_; (case ho => rfl); (case hg => rfl); (case hn => rfl); (case hr => first | (go_simp; done) | (go_simp; rfl)); intro w30 hw; have hg : wr.grownBy w30 (some go15) := (by rw [hw]; exact HP29.2); have hp_ : Kd.R k42 42 w30 w.heap.size (fun _ => True) (.slice (some ⟨go15, 0, none⟩) x5_2.length co15) y227 := (by rw [hw, Ny227.out]; exact HP29.1); clear HP29; have n0_ := Aside0.mk (hp_); have n1_ := Aside0.mk (blk_grown (g := gb222) (o := .cells #[.int .i64 a0_0, .slice A0_1 l0_1.length c0_1, .int .i64 a0_2, .int .i64 a0_3, .int .i64 a0_4] 31 (0, 0)) (by (with_reducible repeat (first | refine blk_drewN ?_ _ | refine blk_drew ?_ | refine blk_alloc ?_ _)); exact BK222.out) hg (Kd.R_ne HO_5.out BK222.out (by decide))); have n2_ := Aside0.mk ((by rw [hw]; exact below_set (HB.out) GB15.out : Below w.heap.size w w30)); clear HO_5; clear BK222; clear HB; have HO_5 := n0_; have BK222 := n1_; have HB := n2_; clear n0_ n1_ n2_; clear hg hw hp_; have hcz31_0 : w30.cell? ⟨gb222, 0, none⟩ = some (.int .i64 a0_0) := (blk_cell BK222.out 0).trans rfl; have hcz31_1 : w30.cell? ⟨gb222, 1, none⟩ = some (.slice A0_1 l0_1.length c0_1) := (blk_cell BK222.out 1).trans rfl; have hcz31_2 : w30.cell? ⟨gb222, 2, none⟩ = some (.int .i64 a0_2) := (blk_cell BK222.out 2).trans rfl; have hcz31_3 : w30.cell? ⟨gb222, 3, none⟩ = some (.int .i64 a0_3) := (blk_cell BK222.out 3).trans rfl; have hcz31_4 : w30.cell? ⟨gb222, 4, none⟩ = some (.int .i64 a0_4) := (blk_cell BK222.out 4).trans rfl; have hfz31_0 := blk_frozen BK222.out 0; have hfz31_1 := blk_frozen BK222.out 1; have hfz31_2 := blk_frozen BK222.out 2; have hfz31_3 := blk_frozen BK222.out 3; have hfz31_4 := blk_frozen BK222.out 4))
                        go_roundg k2
                        case measure => have := HJ2.out; have := HK2.out; omega
                        case rel => exact ⟨(y227), (wrap64 (x6_2 + 1)), (by first | rfl | (simp; done) | (simp [*]; done)), H', ⟨by have := HJ2.out; have := HK2.out; omega⟩, ⟨by (with_reducible repeat (first | apply Kd.R_alloc | apply Kd.R_drewN | apply Kd.R_drew)); exact HO_5.out⟩, ⟨by (with_reducible repeat (first | refine blk_drewN ?_ _ | refine blk_drew ?_ | refine blk_alloc ?_ _)); exact BK222.out⟩, ⟨by repeat (first | (with_reducible first | exact HB.out | apply below_alloc | apply pw_below_drewN | apply below_drew1 | refine below_set ?_ GE222.out) | exact HB.out)⟩⟩
                    · rw [if_neg c14] at H
                      exact absurd H (by simp)
                  · rw [if_neg c13] at H
                    exact absurd H (by simp)
                · rw [if_neg c11] at H
                  have c11b0 : decide (x6_2 < a1) = false := decide_eq_false c11
                  clear c11
                  obtain rfl := Option.some.inj H
                  go_wp2
                  go_ret
                  exact ⟨_, by first | rfl | (simp [errW_none, errW_some] <;> rfl) | (simp [*, errW_none, errW_some] <;> rfl), by (with_reducible repeat (first | apply Kd.R_alloc | apply Kd.R_drewN | apply Kd.R_drew)); exact HO_5.out, by repeat (first | (with_reducible first | exact HB.out | apply below_alloc | apply pw_below_drewN | apply below_drew1 | refine below_set ?_ GE222.out) | exact HB.out)⟩
          · rw [if_neg c8] at H
            exact absurd H (by simp)
        · rw [if_neg c7] at H
          exact absurd H (by simp)

end Go.Proofs.YtinmehodkeofaaaDoor.Q
