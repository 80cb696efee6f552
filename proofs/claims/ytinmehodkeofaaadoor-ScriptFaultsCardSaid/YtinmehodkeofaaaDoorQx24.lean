-- Written by a program of this session (wip/extprint.py), which runs the kit's print over contracts of our own.
import Derived.Test.YtinmehodkeofaaaDoorQx0
import Derived.Test.YtinmehodkeofaaaDoorQx3
import Derived.Test.YtinmehodkeofaaaDoorQx4
import Derived.Test.YtinmehodkeofaaaDoorEFaults
import Derived.Test.YtinmehodkeofaaaDoorETabs
namespace Go.Proofs.YtinmehodkeofaaaDoor.Q
open Go.RowKit Go.Proofs.YtinmehodkeofaaaDoorW.PrintWords Go.Proofs.YtinmehodkeofaaaDoorW.PrintLast Go.Proofs.YtinmehodkeofaaaDoorW.PrintMore
attribute [local go_sem] max2_int min2_int max_two min_two max_three min_three max_four min_four   -- for this text's walks alone
set_option linter.unusedVariables false
set_option linter.unusedSimpArgs false

/-! ### bootchainlaw39_ScriptFaults: function 7 -/
mutual
def bootchainlaw39_ScriptFaults.j0 : Nat → Int → Bool → Bool → Int → List Int → Int → Int → Int → Option (Bool)
  | 0, _, _, _, _, _, _, _, _ => none
  | k + 1, x1, x5, x17, x278000, x278001, x278002, x278003, x278004 => if x17 = true then (some x5) else ((script_Faults.f x278000 x278001 x278002 x278003 x278004 (wrap64 (x1))).bind fun t280 => (if (t280.length : Int) = (wrap64 (x1)) then (bootchainlaw39_ScriptFaults.l0 k x5 t280 0 x278000 x278001 x278002 x278003 x278004) else (some false)))
def bootchainlaw39_ScriptFaults.l0 : Nat → Bool → List (S42) → Int → Int → List Int → Int → Int → Int → Option (Bool)
  | 0, _, _, _, _, _, _, _, _ => none
  | k + 1, x5, x6, x7, x278000, x278001, x278002, x278003, x278004 => if x7 < (x6.length : Int) then (if 0 ≤ x7 then (if (((rd_T42 x6 x7).f0) != (x7 == x278002)) = true then (bootchainlaw39_ScriptFaults.j2 k x5 x6 x7 true x278000 x278001 x278002 x278003 x278004) else (if (rd_T42 x6 x7).f0 = true then (if ((rd_T42 x6 x7).f1) = x278003 then (if ((rd_T42 x6 x7).f0 = true) then (bootchainlaw39_ScriptFaults.j2 k x5 x6 x7 false x278000 x278001 x278002 x278003 x278004) else (bootchainlaw39_ScriptFaults.j2 k x5 x6 x7 (((rd_T42 x6 x7).f1) != 0) x278000 x278001 x278002 x278003 x278004)) else (bootchainlaw39_ScriptFaults.j2 k x5 x6 x7 true x278000 x278001 x278002 x278003 x278004)) else (if ((rd_T42 x6 x7).f0 = true) then (bootchainlaw39_ScriptFaults.j2 k x5 x6 x7 false x278000 x278001 x278002 x278003 x278004) else (bootchainlaw39_ScriptFaults.j2 k x5 x6 x7 (((rd_T42 x6 x7).f1) != 0) x278000 x278001 x278002 x278003 x278004)))) else (none)) else (some x5)
def bootchainlaw39_ScriptFaults.j2 : Nat → Bool → List (S42) → Int → Bool → Int → List Int → Int → Int → Int → Option (Bool)
  | 0, _, _, _, _, _, _, _, _, _ => none
  | k + 1, x5, x6, x7, x76, x278000, x278001, x278002, x278003, x278004 => if x76 = true then (some false) else (if x7 ≥ 16 then (if 0 ≤ x7 then (if x7 < (x6.length : Int) then (if 0 ≤ (mx (wrap64 (x7 - 16)) 0) then (if (mx (wrap64 (x7 - 16)) 0) < (x6.length : Int) then (if (((rd_T42 x6 x7).f2) != ((rd_T42 x6 (mx (wrap64 (x7 - 16)) 0)).f2)) = true then (some false) else (if x278004 = 0 then (if (rd_T42 x6 x7).f2 = true then (some false) else (bootchainlaw39_ScriptFaults.l0 k x5 x6 (wrap64 (x7 + 1)) x278000 x278001 x278002 x278003 x278004)) else (bootchainlaw39_ScriptFaults.l0 k x5 x6 (wrap64 (x7 + 1)) x278000 x278001 x278002 x278003 x278004))) else (none)) else (none)) else (none)) else (none)) else (if x278004 = 0 then (if 0 ≤ x7 then (if x7 < (x6.length : Int) then (if (rd_T42 x6 x7).f2 = true then (some false) else (bootchainlaw39_ScriptFaults.l0 k x5 x6 (wrap64 (x7 + 1)) x278000 x278001 x278002 x278003 x278004)) else (none)) else (none)) else (bootchainlaw39_ScriptFaults.l0 k x5 x6 (wrap64 (x7 + 1)) x278000 x278001 x278002 x278003 x278004)))
end
def bootchainlaw39_ScriptFaults.f (k : Nat) (a0_0 : Int) (l0_1 : List Int) (a0_2 : Int) (a0_3 : Int) (a0_4 : Int) (a1 : Int) : Option (Bool) := (bootchainlaw39_sanity.f k).bind fun t278 => (if (l0_1.length : Int) > 10 then (bootchainlaw39_ScriptFaults.j0 k a1 t278 true a0_0 l0_1 a0_2 a0_3 a0_4) else ((script_Valid.f k a0_0 l0_1 a0_2 a0_3 a0_4).bind fun t279 => (bootchainlaw39_ScriptFaults.j0 k a1 t278 (!t279) a0_0 l0_1 a0_2 a0_3 a0_4)))
theorem bootchainlaw39_ScriptFaults.mono_l : ∀ k, (∀ y0 y1 y2 y3 y4 y5 y6 y7, LeO (bootchainlaw39_ScriptFaults.j0 k y0 y1 y2 y3 y4 y5 y6 y7) (bootchainlaw39_ScriptFaults.j0 (k + 1) y0 y1 y2 y3 y4 y5 y6 y7)) ∧ (∀ y0 y1 y2 y3 y4 y5 y6 y7, LeO (bootchainlaw39_ScriptFaults.l0 k y0 y1 y2 y3 y4 y5 y6 y7) (bootchainlaw39_ScriptFaults.l0 (k + 1) y0 y1 y2 y3 y4 y5 y6 y7)) ∧ (∀ y0 y1 y2 y3 y4 y5 y6 y7 y8, LeO (bootchainlaw39_ScriptFaults.j2 k y0 y1 y2 y3 y4 y5 y6 y7 y8) (bootchainlaw39_ScriptFaults.j2 (k + 1) y0 y1 y2 y3 y4 y5 y6 y7 y8))
  | 0 => ⟨fun _ _ _ _ _ _ _ _ r h => by simp [bootchainlaw39_ScriptFaults.j0] at h, fun _ _ _ _ _ _ _ _ r h => by simp [bootchainlaw39_ScriptFaults.l0] at h, fun _ _ _ _ _ _ _ _ _ r h => by simp [bootchainlaw39_ScriptFaults.j2] at h⟩
  | k + 1 => by
    obtain ⟨ih0, ih1, ih2⟩ := bootchainlaw39_ScriptFaults.mono_l k
    refine ⟨?_, ?_, ?_⟩
    · intro y0 y1 y2 y3 y4 y5 y6 y7
      unfold bootchainlaw39_ScriptFaults.j0
      repeat' first
      | (with_reducible exact ih0 _ _ _ _ _ _ _ _)
      | (with_reducible exact ih1 _ _ _ _ _ _ _ _)
      | (with_reducible exact ih2 _ _ _ _ _ _ _ _ _)
      | (with_reducible exact bootchainlaw39_sanity.mono _)
      | (with_reducible exact script_Valid.mono _ _ _ _ _ _)
      | (with_reducible exact LeO.refl _)
      | (with_reducible exact LeO.none _)
      | (with_reducible refine LeO.ite ?_ ?_)
      | (with_reducible refine LeO.bind ?_ (fun _ => ?_))
      | exact ih0 _ _ _ _ _ _ _ _
      | exact ih1 _ _ _ _ _ _ _ _
      | exact ih2 _ _ _ _ _ _ _ _ _
      | exact bootchainlaw39_sanity.mono _
      | exact script_Valid.mono _ _ _ _ _ _
      | exact LeO.none _
      | refine LeO.ite ?_ ?_
      | refine LeO.bind ?_ (fun _ => ?_)
    · intro y0 y1 y2 y3 y4 y5 y6 y7
      unfold bootchainlaw39_ScriptFaults.l0
      repeat' first
      | (with_reducible exact ih0 _ _ _ _ _ _ _ _)
      | (with_reducible exact ih1 _ _ _ _ _ _ _ _)
      | (with_reducible exact ih2 _ _ _ _ _ _ _ _ _)
      | (with_reducible exact bootchainlaw39_sanity.mono _)
      | (with_reducible exact script_Valid.mono _ _ _ _ _ _)
      | (with_reducible exact LeO.refl _)
      | (with_reducible exact LeO.none _)
      | (with_reducible refine LeO.ite ?_ ?_)
      | (with_reducible refine LeO.bind ?_ (fun _ => ?_))
      | exact ih0 _ _ _ _ _ _ _ _
      | exact ih1 _ _ _ _ _ _ _ _
      | exact ih2 _ _ _ _ _ _ _ _ _
      | exact bootchainlaw39_sanity.mono _
      | exact script_Valid.mono _ _ _ _ _ _
      | exact LeO.none _
      | refine LeO.ite ?_ ?_
      | refine LeO.bind ?_ (fun _ => ?_)
    · intro y0 y1 y2 y3 y4 y5 y6 y7 y8
      unfold bootchainlaw39_ScriptFaults.j2
      repeat' first
      | (with_reducible exact ih0 _ _ _ _ _ _ _ _)
      | (with_reducible exact ih1 _ _ _ _ _ _ _ _)
      | (with_reducible exact ih2 _ _ _ _ _ _ _ _ _)
      | (with_reducible exact bootchainlaw39_sanity.mono _)
      | (with_reducible exact script_Valid.mono _ _ _ _ _ _)
      | (with_reducible exact LeO.refl _)
      | (with_reducible exact LeO.none _)
      | (with_reducible refine LeO.ite ?_ ?_)
      | (with_reducible refine LeO.bind ?_ (fun _ => ?_))
      | exact ih0 _ _ _ _ _ _ _ _
      | exact ih1 _ _ _ _ _ _ _ _
      | exact ih2 _ _ _ _ _ _ _ _ _
      | exact bootchainlaw39_sanity.mono _
      | exact script_Valid.mono _ _ _ _ _ _
      | exact LeO.none _
      | refine LeO.ite ?_ ?_
      | refine LeO.bind ?_ (fun _ => ?_)
theorem bootchainlaw39_ScriptFaults.mono : ∀ a0 a1 a2 a3 a4 a5 k, LeO (bootchainlaw39_ScriptFaults.f k a0 a1 a2 a3 a4 a5) (bootchainlaw39_ScriptFaults.f (k + 1) a0 a1 a2 a3 a4 a5) := by
  intro a0 a1 a2 a3 a4 a5 k
  obtain ⟨ih0, ih1, ih2⟩ := bootchainlaw39_ScriptFaults.mono_l k
  unfold bootchainlaw39_ScriptFaults.f
  repeat' first
      | (with_reducible exact ih0 _ _ _ _ _ _ _ _)
      | (with_reducible exact ih1 _ _ _ _ _ _ _ _)
      | (with_reducible exact ih2 _ _ _ _ _ _ _ _ _)
      | (with_reducible exact bootchainlaw39_sanity.mono _)
      | (with_reducible exact script_Valid.mono _ _ _ _ _ _)
      | (with_reducible exact LeO.refl _)
      | (with_reducible exact LeO.none _)
      | (with_reducible refine LeO.ite ?_ ?_)
      | (with_reducible refine LeO.bind ?_ (fun _ => ?_))
      | exact ih0 _ _ _ _ _ _ _ _
      | exact ih1 _ _ _ _ _ _ _ _
      | exact ih2 _ _ _ _ _ _ _ _ _
      | exact bootchainlaw39_sanity.mono _
      | exact script_Valid.mono _ _ _ _ _ _
      | exact LeO.none _
      | refine LeO.ite ?_ ?_
      | refine LeO.bind ?_ (fun _ => ?_)
set_option maxHeartbeats 8000000 in
set_option maxRecDepth 100000 in
theorem bootchainlaw39_ScriptFaults.calls (k : Nat) (a0_0 : Int) (A0_1 : Option Addr) (c0_1 : Nat) (l0_1 : List Int) (a0_2 : Int) (a0_3 : Int) (a0_4 : Int) (a1 : Int) (r : Bool) (w : World) (hTb_ : Tabs w) (hr0_1 : Kd.C (Kd.int .i64) w A0_1 l0_1.length l0_1) (hc0_1 : l0_1.length ≤ c0_1) (h : bootchainlaw39_ScriptFaults.f k a0_0 l0_1 a0_2 a0_3 a0_4 a1 = some r) :
    Calls Tryd.prog 7 #[.agg #[.int .i64 a0_0, .slice A0_1 l0_1.length c0_1, .int .i64 a0_2, .int .i64 a0_3, .int .i64 a0_4], .int .u8 a1] w fun e w' => e = .returned (.bool r) ∧ Below w.heap.size w w' := by
  have hu31 := Tryd.underlying31
  have HTb_ := Aside0.mk hTb_
  clear hTb_
  have HR0_1 := Aside0.mk hr0_1
  have HC0_1 := Aside0.mk hc0_1
  clear hr0_1 hc0_1
  have HB := Aside0.mk (Below.refl w.heap.size w)
  have H : ((bootchainlaw39_sanity.f k).bind fun t278 => (if (l0_1.length : Int) > 10 then (bootchainlaw39_ScriptFaults.j0 k a1 t278 true a0_0 l0_1 a0_2 a0_3 a0_4) else ((script_Valid.f k a0_0 l0_1 a0_2 a0_3 a0_4).bind fun t279 => (bootchainlaw39_ScriptFaults.j0 k a1 t278 (!t279) a0_0 l0_1 a0_2 a0_3 a0_4)))) = some r := h
  clear h
  replace H := Option.bind_eq_some_iff.mp H
  obtain ⟨t278, A30, H⟩ := H
  replace H : (if (l0_1.length : Int) > 10 then (bootchainlaw39_ScriptFaults.j0 k a1 t278 true a0_0 l0_1 a0_2 a0_3 a0_4) else ((script_Valid.f k a0_0 l0_1 a0_2 a0_3 a0_4).bind fun t279 => (bootchainlaw39_ScriptFaults.j0 k a1 t278 (!t279) a0_0 l0_1 a0_2 a0_3 a0_4))) = some r := H
  have A3 := Aside0.mk A30
  clear A30
  have HC4 := Aside0.mk H
  clear H
  go_enter Tryd.func7, Tryd.ntmps7
  go_upto_region 2 with (first | ((with_reducible refine gate_dst (N := 2) rfl ?_); (try (refine gate_guard (by rfl) ?_; dsimp only)); refine box_event ?hg (N := 2) ?hd (cs := #[.int .i64 a0_0, .slice A0_1 l0_1.length c0_1, .int .i64 a0_2, .int .i64 a0_3, .int .i64 a0_4]) (t := 31) ?hr ?_; (case hd => rfl); (case hg => first | rfl | exact wanted_on rfl rfl rfl (by assumption)); (case hr => first | (go_simp; done) | (go_simp; rfl)); intro gb277 hg w5 hbox hb; have n0_ := Aside0.mk (below_step (by repeat (first | (with_reducible first | exact HB.out | apply below_alloc | apply pw_below_drewN | apply below_drew1) | exact HB.out)) hb); have n1_ := Aside0.mk (hbox); have n2_ := Aside0.mk ((by rw [hg]; exact (below_size (by repeat (first | (with_reducible first | exact HB.out | apply below_alloc | apply pw_below_drewN | apply below_drew1) | exact HB.out))) : w.heap.size ≤ gb277)); have n3_ := Aside0.mk ((by rw [hg]; exact (below_size (by repeat (first | (with_reducible first | exact HB.out | apply below_alloc | apply pw_below_drewN | apply below_drew1) | exact HB.out))) : w.heap.size ≤ gb277)); clear HB; have HB := n0_; have BK277 := n1_; have GW277 := n2_; have GE277 := n3_; clear n0_ n1_ n2_ n3_; clear hb hbox hg) | (go_at_call 9; (with_reducible refine (bootchainlaw39_sanity.calls k  t278 _ ?side1 A3.out).mono ?_); (case side1 => exact tabs_step HTb_.out (by repeat (first | (with_reducible first | exact HB.out | apply below_alloc | apply pw_below_drewN | apply below_drew1 | refine below_set ?_ GE277.out) | exact HB.out))); rintro e w6 ⟨rfl, hb⟩; have n0_ := Aside0.mk (blk_below (g := gb277) (o := .cells #[.int .i64 a0_0, .slice A0_1 l0_1.length c0_1, .int .i64 a0_2, .int .i64 a0_3, .int .i64 a0_4] 31 (0, 0)) (by (with_reducible repeat (first | refine blk_drewN ?_ _ | refine blk_drew ?_ | refine blk_alloc ?_ _)); exact BK277.out) hb); have n1_ := Aside0.mk (below_step (by repeat (first | (with_reducible first | exact HB.out | apply below_alloc | apply pw_below_drewN | apply below_drew1 | refine below_set ?_ GE277.out) | exact HB.out)) hb); clear BK277; clear HB; have BK277 := n0_; have HB := n1_; clear n0_ n1_; (try clear hb); (try clear hb2); (try clear hk); (try clear hi)))
  repeat (go_quiet (first | ((with_reducible refine gate_dst (N := 2) rfl ?_); (try (refine gate_guard (by rfl) ?_; dsimp only)); refine box_event ?hg (N := 2) ?hd (cs := #[.int .i64 a0_0, .slice A0_1 l0_1.length c0_1, .int .i64 a0_2, .int .i64 a0_3, .int .i64 a0_4]) (t := 31) ?hr ?_; (case hd => rfl); (case hg => first | rfl | exact wanted_on rfl rfl rfl (by assumption)); (case hr => first | (go_simp; done) | (go_simp; rfl)); intro gb277 hg w5 hbox hb; have n0_ := Aside0.mk (below_step (by repeat (first | (with_reducible first | exact HB.out | apply below_alloc | apply pw_below_drewN | apply below_drew1) | exact HB.out)) hb); have n1_ := Aside0.mk (hbox); have n2_ := Aside0.mk ((by rw [hg]; exact (below_size (by repeat (first | (with_reducible first | exact HB.out | apply below_alloc | apply pw_below_drewN | apply below_drew1) | exact HB.out))) : w.heap.size ≤ gb277)); have n3_ := Aside0.mk ((by rw [hg]; exact (below_size (by repeat (first | (with_reducible first | exact HB.out | apply below_alloc | apply pw_below_drewN | apply below_drew1) | exact HB.out))) : w.heap.size ≤ gb277)); clear HB; have HB := n0_; have BK277 := n1_; have GW277 := n2_; have GE277 := n3_; clear n0_ n1_ n2_ n3_; clear hb hbox hg) | (go_at_call 9; (with_reducible refine (bootchainlaw39_sanity.calls k  t278 _ ?side1 A3.out).mono ?_); (case side1 => exact tabs_step HTb_.out (by repeat (first | (with_reducible first | exact HB.out | apply below_alloc | apply pw_below_drewN | apply below_drew1 | refine below_set ?_ GE277.out) | exact HB.out))); rintro e w6 ⟨rfl, hb⟩; have n0_ := Aside0.mk (blk_below (g := gb277) (o := .cells #[.int .i64 a0_0, .slice A0_1 l0_1.length c0_1, .int .i64 a0_2, .int .i64 a0_3, .int .i64 a0_4] 31 (0, 0)) (by (with_reducible repeat (first | refine blk_drewN ?_ _ | refine blk_drew ?_ | refine blk_alloc ?_ _)); exact BK277.out) hb); have n1_ := Aside0.mk (below_step (by repeat (first | (with_reducible first | exact HB.out | apply below_alloc | apply pw_below_drewN | apply below_drew1 | refine below_set ?_ GE277.out) | exact HB.out)) hb); clear BK277; clear HB; have BK277 := n0_; have HB := n1_; clear n0_ n1_; (try clear hb); (try clear hb2); (try clear hk); (try clear hi))); go_upto_region 2 with (first | ((with_reducible refine gate_dst (N := 2) rfl ?_); (try (refine gate_guard (by rfl) ?_; dsimp only)); refine box_event ?hg (N := 2) ?hd (cs := #[.int .i64 a0_0, .slice A0_1 l0_1.length c0_1, .int .i64 a0_2, .int .i64 a0_3, .int .i64 a0_4]) (t := 31) ?hr ?_; (case hd => rfl); (case hg => first | rfl | exact wanted_on rfl rfl rfl (by assumption)); (case hr => first | (go_simp; done) | (go_simp; rfl)); intro gb277 hg w5 hbox hb; have n0_ := Aside0.mk (below_step (by repeat (first | (with_reducible first | exact HB.out | apply below_alloc | apply pw_below_drewN | apply below_drew1) | exact HB.out)) hb); have n1_ := Aside0.mk (hbox); have n2_ := Aside0.mk ((by rw [hg]; exact (below_size (by repeat (first | (with_reducible first | exact HB.out | apply below_alloc | apply pw_below_drewN | apply below_drew1) | exact HB.out))) : w.heap.size ≤ gb277)); have n3_ := Aside0.mk ((by rw [hg]; exact (below_size (by repeat (first | (with_reducible first | exact HB.out | apply below_alloc | apply pw_below_drewN | apply below_drew1) | exact HB.out))) : w.heap.size ≤ gb277)); clear HB; have HB := n0_; have BK277 := n1_; have GW277 := n2_; have GE277 := n3_; clear n0_ n1_ n2_ n3_; clear hb hbox hg) | (go_at_call 9; (with_reducible refine (bootchainlaw39_sanity.calls k  t278 _ ?side1 A3.out).mono ?_); (case side1 => exact tabs_step HTb_.out (by repeat (first | (with_reducible first | exact HB.out | apply below_alloc | apply pw_below_drewN | apply below_drew1 | refine below_set ?_ GE277.out) | exact HB.out))); rintro e w6 ⟨rfl, hb⟩; have n0_ := Aside0.mk (blk_below (g := gb277) (o := .cells #[.int .i64 a0_0, .slice A0_1 l0_1.length c0_1, .int .i64 a0_2, .int .i64 a0_3, .int .i64 a0_4] 31 (0, 0)) (by (with_reducible repeat (first | refine blk_drewN ?_ _ | refine blk_drew ?_ | refine blk_alloc ?_ _)); exact BK277.out) hb); have n1_ := Aside0.mk (below_step (by repeat (first | (with_reducible first | exact HB.out | apply below_alloc | apply pw_below_drewN | apply below_drew1 | refine below_set ?_ GE277.out) | exact HB.out)) hb); clear BK277; clear HB; have BK277 := n0_; have HB := n1_; clear n0_ n1_; (try clear hb); (try clear hb2); (try clear hk); (try clear hi))))
  (try simp only [Act.put, List.setIfInBounds_toArray, List.set_cons_zero, List.set_cons_succ])
  go_cut [17] (fun v17 wc => ∃ (kq : Nat) (x17_3 : Bool), v17 = .bool x17_3 ∧ Aside0 (bootchainlaw39_ScriptFaults.j0 kq a1 t278 x17_3 a0_0 l0_1 a0_2 a0_3 a0_4 = some r) ∧ Aside0 (kq ≤ k) ∧ Aside0 (wc.heap[gb277]? = some (.cells #[.int .i64 a0_0, (.slice A0_1 l0_1.length c0_1), .int .i64 a0_2, .int .i64 a0_3, .int .i64 a0_4] 31 (0, 0))) ∧ Aside0 (Below w.heap.size w wc))
  case first =>
    have H := HC4.out
    clear HC4
    by_cases c7 : (l0_1.length : Int) > 10
    · rw [if_pos c7] at H
      have c7b0 : decide (10 < (l0_1.length : Int)) = true := decide_eq_true c7
      have c7b1 : decide (10 < l0_1.length) = true := decide_eq_true (by omega)
      clear c7
      (first | rw [c7b0] | (simp only [i64_w, i32_w]; rw [c7b0]) | skip)
      have H' := Aside0.mk H
      clear H
      have hcz8_0 : w6.cell? ⟨gb277, 0, none⟩ = some (.int .i64 a0_0) := (blk_cell BK277.out 0).trans rfl
      have hcz8_1 : w6.cell? ⟨gb277, 1, none⟩ = some (.slice A0_1 l0_1.length c0_1) := (blk_cell BK277.out 1).trans rfl
      have hcz8_2 : w6.cell? ⟨gb277, 2, none⟩ = some (.int .i64 a0_2) := (blk_cell BK277.out 2).trans rfl
      have hcz8_3 : w6.cell? ⟨gb277, 3, none⟩ = some (.int .i64 a0_3) := (blk_cell BK277.out 3).trans rfl
      have hcz8_4 : w6.cell? ⟨gb277, 4, none⟩ = some (.int .i64 a0_4) := (blk_cell BK277.out 4).trans rfl
      have hfz8_0 := blk_frozen BK277.out 0
      have hfz8_1 := blk_frozen BK277.out 1
      have hfz8_2 := blk_frozen BK277.out 2
      have hfz8_3 := blk_frozen BK277.out 3
      have hfz8_4 := blk_frozen BK277.out 4
      go_wp2
      repeat (go_quiet (fail); try go_wp2)
      go_meet
      case rel => exact ⟨_, (true), (by first | rfl | (simp; done) | (simp [*]; done)), H', ⟨by first | omega | exact Nat.le_refl _⟩, ⟨by (with_reducible repeat (first | refine blk_drewN ?_ _ | refine blk_drew ?_ | refine blk_alloc ?_ _)); exact BK277.out⟩, ⟨by repeat (first | (with_reducible first | exact HB.out | apply below_alloc | apply pw_below_drewN | apply below_drew1 | refine below_set ?_ GE277.out) | exact HB.out)⟩⟩
    · rw [if_neg c7] at H
      have c7b0 : decide (10 < (l0_1.length : Int)) = false := decide_eq_false c7
      have c7b1 : decide (10 < l0_1.length) = false := decide_eq_false (by omega)
      clear c7
      (first | rw [c7b0] | (simp only [i64_w, i32_w]; rw [c7b0]) | skip)
      replace H := Option.bind_eq_some_iff.mp H
      obtain ⟨t279, A90, H⟩ := H
      replace H : (bootchainlaw39_ScriptFaults.j0 k a1 t278 (!t279) a0_0 l0_1 a0_2 a0_3 a0_4) = some r := H
      have A9 := Aside0.mk A90
      clear A90
      have H' := Aside0.mk H
      clear H
      have hcz10_0 : w6.cell? ⟨gb277, 0, none⟩ = some (.int .i64 a0_0) := (blk_cell BK277.out 0).trans rfl
      have hcz10_1 : w6.cell? ⟨gb277, 1, none⟩ = some (.slice A0_1 l0_1.length c0_1) := (blk_cell BK277.out 1).trans rfl
      have hcz10_2 : w6.cell? ⟨gb277, 2, none⟩ = some (.int .i64 a0_2) := (blk_cell BK277.out 2).trans rfl
      have hcz10_3 : w6.cell? ⟨gb277, 3, none⟩ = some (.int .i64 a0_3) := (blk_cell BK277.out 3).trans rfl
      have hcz10_4 : w6.cell? ⟨gb277, 4, none⟩ = some (.int .i64 a0_4) := (blk_cell BK277.out 4).trans rfl
      have hfz10_0 := blk_frozen BK277.out 0
      have hfz10_1 := blk_frozen BK277.out 1
      have hfz10_2 := blk_frozen BK277.out 2
      have hfz10_3 := blk_frozen BK277.out 3
      have hfz10_4 := blk_frozen BK277.out 4
      go_wp2_with (first | (go_at_call 13; (with_reducible refine (script_Valid.calls k a0_0 _ _ l0_1 a0_2 a0_3 a0_4 t279 _ ?side3 ?side1 ?side2 A9.out).mono ?_); (case side1 => repeat (first | exact (Kd.C_below HR0_1.out HB.out) | (with_reducible refine Kd.C_alloc ?_ _) | (with_reducible refine Kd.C_drewN ?_ _) | (with_reducible refine Kd.C_drew ?_))); (case side2 => exact HC0_1.out); (case side3 => exact tabs_step HTb_.out (by repeat (first | (with_reducible first | exact HB.out | apply below_alloc | apply pw_below_drewN | apply below_drew1 | refine below_set ?_ GE277.out) | exact HB.out))); rintro e w11 ⟨rfl, hb⟩; have n0_ := Aside0.mk (blk_below (g := gb277) (o := .cells #[.int .i64 a0_0, .slice A0_1 l0_1.length c0_1, .int .i64 a0_2, .int .i64 a0_3, .int .i64 a0_4] 31 (0, 0)) (by (with_reducible repeat (first | refine blk_drewN ?_ _ | refine blk_drew ?_ | refine blk_alloc ?_ _)); exact BK277.out) hb); have n1_ := Aside0.mk (below_step (by repeat (first | (with_reducible first | exact HB.out | apply below_alloc | apply pw_below_drewN | apply below_drew1 | refine below_set ?_ GE277.out) | exact HB.out)) hb); clear BK277; clear HB; have BK277 := n0_; have HB := n1_; clear n0_ n1_; (try clear hb); (try clear hb2); (try clear hk); (try clear hi)))
      repeat (go_quiet (first | (go_at_call 13; (with_reducible refine (script_Valid.calls k a0_0 _ _ l0_1 a0_2 a0_3 a0_4 t279 _ ?side3 ?side1 ?side2 A9.out).mono ?_); (case side1 => repeat (first | exact (Kd.C_below HR0_1.out HB.out) | (with_reducible refine Kd.C_alloc ?_ _) | (with_reducible refine Kd.C_drewN ?_ _) | (with_reducible refine Kd.C_drew ?_))); (case side2 => exact HC0_1.out); (case side3 => exact tabs_step HTb_.out (by repeat (first | (with_reducible first | exact HB.out | apply below_alloc | apply pw_below_drewN | apply below_drew1 | refine below_set ?_ GE277.out) | exact HB.out))); rintro e w11 ⟨rfl, hb⟩; have n0_ := Aside0.mk (blk_below (g := gb277) (o := .cells #[.int .i64 a0_0, .slice A0_1 l0_1.length c0_1, .int .i64 a0_2, .int .i64 a0_3, .int .i64 a0_4] 31 (0, 0)) (by (with_reducible repeat (first | refine blk_drewN ?_ _ | refine blk_drew ?_ | refine blk_alloc ?_ _)); exact BK277.out) hb); have n1_ := Aside0.mk (below_step (by repeat (first | (with_reducible first | exact HB.out | apply below_alloc | apply pw_below_drewN | apply below_drew1 | refine below_set ?_ GE277.out) | exact HB.out)) hb); clear BK277; clear HB; have BK277 := n0_; have HB := n1_; clear n0_ n1_; (try clear hb); (try clear hb2); (try clear hk); (try clear hi))); try go_wp2_with (first | (go_at_call 13; (with_reducible refine (script_Valid.calls k a0_0 _ _ l0_1 a0_2 a0_3 a0_4 t279 _ ?side3 ?side1 ?side2 A9.out).mono ?_); (case side1 => repeat (first | exact (Kd.C_below HR0_1.out HB.out) | (with_reducible refine Kd.C_alloc ?_ _) | (with_reducible refine Kd.C_drewN ?_ _) | (with_reducible refine Kd.C_drew ?_))); (case side2 => exact HC0_1.out); (case side3 => exact tabs_step HTb_.out (by repeat (first | (with_reducible first | exact HB.out | apply below_alloc | apply pw_below_drewN | apply below_drew1 | refine below_set ?_ GE277.out) | exact HB.out))); rintro e w11 ⟨rfl, hb⟩; have n0_ := Aside0.mk (blk_below (g := gb277) (o := .cells #[.int .i64 a0_0, .slice A0_1 l0_1.length c0_1, .int .i64 a0_2, .int .i64 a0_3, .int .i64 a0_4] 31 (0, 0)) (by (with_reducible repeat (first | refine blk_drewN ?_ _ | refine blk_drew ?_ | refine blk_alloc ?_ _)); exact BK277.out) hb); have n1_ := Aside0.mk (below_step (by repeat (first | (with_reducible first | exact HB.out | apply below_alloc | apply pw_below_drewN | apply below_drew1 | refine below_set ?_ GE277.out) | exact HB.out)) hb); clear BK277; clear HB; have BK277 := n0_; have HB := n1_; clear n0_ n1_; (try clear hb); (try clear hb2); (try clear hk); (try clear hi))))
      go_meet
      case rel => exact ⟨_, (!t279), (by first | rfl | (simp; done) | (simp [*]; done)), H', ⟨by first | omega | exact Nat.le_refl _⟩, ⟨by (with_reducible repeat (first | refine blk_drewN ?_ _ | refine blk_drew ?_ | refine blk_alloc ?_ _)); exact BK277.out⟩, ⟨by repeat (first | (with_reducible first | exact HB.out | apply below_alloc | apply pw_below_drewN | apply below_drew1 | refine below_set ?_ GE277.out) | exact HB.out)⟩⟩
  case rest =>
    clear HC4
    try clear p2
    try clear c7
    try clear c7b0
    try clear c7b1
    try clear hcz10_0
    try clear hcz10_1
    try clear hcz10_2
    try clear hcz10_3
    try clear hcz10_4
    try clear hcz8_0
    try clear hcz8_1
    try clear hcz8_2
    try clear hcz8_3
    try clear hcz8_4
    try clear hfz10_0
    try clear hfz10_1
    try clear hfz10_2
    try clear hfz10_3
    try clear hfz10_4
    try clear hfz8_0
    try clear hfz8_1
    try clear hfz8_2
    try clear hfz8_3
    try clear hfz8_4
    obtain ⟨kq, x17_3, rfl, HA, HJ3, BK277, HB⟩ := hcut
    cases kq with
    | zero => exact absurd HA.out (by simp [bootchainlaw39_ScriptFaults.j0])
    | succ kj3 =>
      have H := HA.out
      clear HA
      simp only [bootchainlaw39_ScriptFaults.j0] at H
      by_cases c12 : x17_3 = true
      · subst c12
        have H1 : (some t278) = some r := by rw [if_pos rfl] at H; exact H
        clear H
        have H := H1
        clear H1
        obtain rfl := Option.some.inj H
        go_wp2
        repeat (go_quiet (fail); try go_wp2)
        go_ret
        exact ⟨by first | rfl | (simp [errW_none, errW_some] <;> rfl) | (simp [*, errW_none, errW_some] <;> rfl), by repeat (first | (with_reducible first | exact HB.out | apply below_alloc | apply pw_below_drewN | apply below_drew1 | refine below_set ?_ GE277.out) | exact HB.out)⟩
      · replace c12 := Bool.eq_false_iff.mpr c12
        subst c12
        have H1 : ((script_Faults.f a0_0 l0_1 a0_2 a0_3 a0_4 (wrap64 (a1))).bind fun t280 => (if (t280.length : Int) = (wrap64 (a1)) then (bootchainlaw39_ScriptFaults.l0 kj3 t278 t280 0 a0_0 l0_1 a0_2 a0_3 a0_4) else (some false))) = some r := by rw [if_neg (show ¬ (false = true) by decide)] at H; exact H
        clear H
        have H := H1
        clear H1
        replace H := Option.bind_eq_some_iff.mp H
        obtain ⟨t280, A130, H⟩ := H
        replace H : (if (t280.length : Int) = (wrap64 (a1)) then (bootchainlaw39_ScriptFaults.l0 kj3 t278 t280 0 a0_0 l0_1 a0_2 a0_3 a0_4) else (some false)) = some r := H
        have A13 := Aside0.mk A130
        clear A130
        by_cases c14 : (t280.length : Int) = (wrap64 (a1))
        · rw [if_pos c14] at H
          have c14b0 : ((t280.length : Int) == (wrap64 (a1))) = true := beq_iff_eq.mpr c14
          have c14b1 : ((t280.length : Int) != (wrap64 (a1))) = false := bne_eq_false_iff_eq.mpr c14
          clear c14
          have H' := Aside0.mk H
          clear H
          have hcz15_0 : wc.cell? ⟨gb277, 0, none⟩ = some (.int .i64 a0_0) := (blk_cell BK277.out 0).trans rfl
          have hcz15_1 : wc.cell? ⟨gb277, 1, none⟩ = some (.slice A0_1 l0_1.length c0_1) := (blk_cell BK277.out 1).trans rfl
          have hcz15_2 : wc.cell? ⟨gb277, 2, none⟩ = some (.int .i64 a0_2) := (blk_cell BK277.out 2).trans rfl
          have hcz15_3 : wc.cell? ⟨gb277, 3, none⟩ = some (.int .i64 a0_3) := (blk_cell BK277.out 3).trans rfl
          have hcz15_4 : wc.cell? ⟨gb277, 4, none⟩ = some (.int .i64 a0_4) := (blk_cell BK277.out 4).trans rfl
          have hfz15_0 := blk_frozen BK277.out 0
          have hfz15_1 := blk_frozen BK277.out 1
          have hfz15_2 := blk_frozen BK277.out 2
          have hfz15_3 := blk_frozen BK277.out 3
          have hfz15_4 := blk_frozen BK277.out 4
          go_wp2_with (first | (go_at_call 20; (with_reducible refine (script_Faults.calls a0_0 _ _ l0_1 a0_2 a0_3 a0_4 (wrap64 (a1)) t280 _ ?side1 ?side2 A13.out).mono ?_); (case side1 => repeat (first | exact (Kd.C_below HR0_1.out HB.out) | (with_reducible refine Kd.C_alloc ?_ _) | (with_reducible refine Kd.C_drewN ?_ _) | (with_reducible refine Kd.C_drew ?_))); (case side2 => exact HC0_1.out); rintro e w16 ⟨v281, rfl, ho0, hb⟩; have n0_ := Aside0.mk (Kd.R_lower ho0 (below_size (by repeat (first | (with_reducible first | exact HB.out | apply below_alloc | apply pw_below_drewN | apply below_drew1 | refine below_set ?_ GE277.out) | exact HB.out)))); have n1_ := Aside0.mk (blk_below (g := gb277) (o := .cells #[.int .i64 a0_0, .slice A0_1 l0_1.length c0_1, .int .i64 a0_2, .int .i64 a0_3, .int .i64 a0_4] 31 (0, 0)) (by (with_reducible repeat (first | refine blk_drewN ?_ _ | refine blk_drew ?_ | refine blk_alloc ?_ _)); exact BK277.out) hb); have n2_ := Aside0.mk (below_step (by repeat (first | (with_reducible first | exact HB.out | apply below_alloc | apply pw_below_drewN | apply below_drew1 | refine below_set ?_ GE277.out) | exact HB.out)) hb); clear BK277; clear HB; have HO282 := n0_; have BK277 := n1_; have HB := n2_; clear n0_ n1_ n2_; (try clear hb); (try clear hb2); (try clear hk); (try clear hi); (try clear ho0); obtain ⟨Ao17, co17, eo17⟩ := Kd.R_slice HO282.out; subst eo17))
          repeat (go_quiet (first | (go_at_call 20; (with_reducible refine (script_Faults.calls a0_0 _ _ l0_1 a0_2 a0_3 a0_4 (wrap64 (a1)) t280 _ ?side1 ?side2 A13.out).mono ?_); (case side1 => repeat (first | exact (Kd.C_below HR0_1.out HB.out) | (with_reducible refine Kd.C_alloc ?_ _) | (with_reducible refine Kd.C_drewN ?_ _) | (with_reducible refine Kd.C_drew ?_))); (case side2 => exact HC0_1.out); rintro e w16 ⟨v281, rfl, ho0, hb⟩; have n0_ := Aside0.mk (Kd.R_lower ho0 (below_size (by repeat (first | (with_reducible first | exact HB.out | apply below_alloc | apply pw_below_drewN | apply below_drew1 | refine below_set ?_ GE277.out) | exact HB.out)))); have n1_ := Aside0.mk (blk_below (g := gb277) (o := .cells #[.int .i64 a0_0, .slice A0_1 l0_1.length c0_1, .int .i64 a0_2, .int .i64 a0_3, .int .i64 a0_4] 31 (0, 0)) (by (with_reducible repeat (first | refine blk_drewN ?_ _ | refine blk_drew ?_ | refine blk_alloc ?_ _)); exact BK277.out) hb); have n2_ := Aside0.mk (below_step (by repeat (first | (with_reducible first | exact HB.out | apply below_alloc | apply pw_below_drewN | apply below_drew1 | refine below_set ?_ GE277.out) | exact HB.out)) hb); clear BK277; clear HB; have HO282 := n0_; have BK277 := n1_; have HB := n2_; clear n0_ n1_ n2_; (try clear hb); (try clear hb2); (try clear hk); (try clear hi); (try clear ho0); obtain ⟨Ao17, co17, eo17⟩ := Kd.R_slice HO282.out; subst eo17)); try go_wp2_with (first | (go_at_call 20; (with_reducible refine (script_Faults.calls a0_0 _ _ l0_1 a0_2 a0_3 a0_4 (wrap64 (a1)) t280 _ ?side1 ?side2 A13.out).mono ?_); (case side1 => repeat (first | exact (Kd.C_below HR0_1.out HB.out) | (with_reducible refine Kd.C_alloc ?_ _) | (with_reducible refine Kd.C_drewN ?_ _) | (with_reducible refine Kd.C_drew ?_))); (case side2 => exact HC0_1.out); rintro e w16 ⟨v281, rfl, ho0, hb⟩; have n0_ := Aside0.mk (Kd.R_lower ho0 (below_size (by repeat (first | (with_reducible first | exact HB.out | apply below_alloc | apply pw_below_drewN | apply below_drew1 | refine below_set ?_ GE277.out) | exact HB.out)))); have n1_ := Aside0.mk (blk_below (g := gb277) (o := .cells #[.int .i64 a0_0, .slice A0_1 l0_1.length c0_1, .int .i64 a0_2, .int .i64 a0_3, .int .i64 a0_4] 31 (0, 0)) (by (with_reducible repeat (first | refine blk_drewN ?_ _ | refine blk_drew ?_ | refine blk_alloc ?_ _)); exact BK277.out) hb); have n2_ := Aside0.mk (below_step (by repeat (first | (with_reducible first | exact HB.out | apply below_alloc | apply pw_below_drewN | apply below_drew1 | refine below_set ?_ GE277.out) | exact HB.out)) hb); clear BK277; clear HB; have HO282 := n0_; have BK277 := n1_; have HB := n2_; clear n0_ n1_ n2_; (try clear hb); (try clear hb2); (try clear hk); (try clear hi); (try clear ho0); obtain ⟨Ao17, co17, eo17⟩ := Kd.R_slice HO282.out; subst eo17)))
          go_loopg [7] kj3 (fun kq v7 w' => ∃ (x7_2 : Int), v7 = .int .i64 x7_2 ∧ Aside0 (bootchainlaw39_ScriptFaults.l0 kq t278 t280 x7_2 a0_0 l0_1 a0_2 a0_3 a0_4 = some r) ∧ Aside0 (kq ≤ kj3) ∧ Aside0 (Kd.R k42 42 w' w.heap.size (fun _ => True) (.slice Ao17 t280.length co17) t280) ∧ Aside0 (w'.heap[gb277]? = some (.cells #[.int .i64 a0_0, (.slice A0_1 l0_1.length c0_1), .int .i64 a0_2, .int .i64 a0_3, .int .i64 a0_4] 31 (0, 0))) ∧ Aside0 (Below w.heap.size w w'))
          case atStart => exact ⟨(0), (by first | rfl | (simp; done) | (simp [*]; done)), H', ⟨Nat.le_refl _⟩, ⟨by (with_reducible repeat (first | apply Kd.R_alloc | apply Kd.R_drewN | apply Kd.R_drew)); exact HO282.out⟩, ⟨by (with_reducible repeat (first | refine blk_drewN ?_ _ | refine blk_drew ?_ | refine blk_alloc ?_ _)); exact BK277.out⟩, ⟨by repeat (first | (with_reducible first | exact HB.out | apply below_alloc | apply pw_below_drewN | apply below_drew1 | refine below_set ?_ GE277.out) | exact HB.out)⟩⟩
          case round =>
            clear H'
            try clear c1
            try clear p2
            try clear p6
            try clear c7
            try clear c7b0
            try clear c7b1
            try clear c12
            try clear c14
            try clear c14b0
            try clear c14b1
            try clear hcz10_0
            try clear hcz10_1
            try clear hcz10_2
            try clear hcz10_3
            try clear hcz10_4
            try clear hcz15_0
            try clear hcz15_1
            try clear hcz15_2
            try clear hcz15_3
            try clear hcz15_4
            try clear hcz8_0
            try clear hcz8_1
            try clear hcz8_2
            try clear hcz8_3
            try clear hcz8_4
            try clear hfz10_0
            try clear hfz10_1
            try clear hfz10_2
            try clear hfz10_3
            try clear hfz10_4
            try clear hfz15_0
            try clear hfz15_1
            try clear hfz15_2
            try clear hfz15_3
            try clear hfz15_4
            try clear hfz8_0
            try clear hfz8_1
            try clear hfz8_2
            try clear hfz8_3
            try clear hfz8_4
            try clear p2
            obtain ⟨x7_2, rfl, HA, HK2, HO_6, BK277, HB⟩ := hrel
            cases gk with
            | zero => exact absurd HA.out (by simp [bootchainlaw39_ScriptFaults.l0])
            | succ k2 =>
              have H := HA.out
              clear HA
              simp only [bootchainlaw39_ScriptFaults.l0] at H
              by_cases c18 : x7_2 < (t280.length : Int)
              · rw [if_pos c18] at H
                have c18b0 : decide (x7_2 < (t280.length : Int)) = true := decide_eq_true c18
                clear c18
                have HC19 := Aside0.mk H
                clear H
                go_upto_region 10 with (fail)
                repeat (go_quiet (fail); go_upto_region 10 with (fail))
                go_cut [76] (fun v76 wc => ∃ (kq : Nat) (x76_18 : Bool), v76 = .bool x76_18 ∧ Aside0 (bootchainlaw39_ScriptFaults.j2 kq t278 t280 x7_2 x76_18 a0_0 l0_1 a0_2 a0_3 a0_4 = some r) ∧ Aside0 (kq ≤ k2) ∧ Aside0 (Kd.R k42 42 wc w.heap.size (fun _ => True) (.slice Ao17 t280.length co17) t280) ∧ Aside0 (wc.heap[gb277]? = some (.cells #[.int .i64 a0_0, (.slice A0_1 l0_1.length c0_1), .int .i64 a0_2, .int .i64 a0_3, .int .i64 a0_4] 31 (0, 0))) ∧ Aside0 (Below w.heap.size w wc))
                case first =>
                  have H := HC19.out
                  clear HC19
                  by_cases c20 : 0 ≤ x7_2
                  · rw [if_pos c20] at H
                    have c20b0 : decide (0 ≤ x7_2) = true := decide_eq_true c20
                    clear c20
                    (first | rw [c20b0] | (simp only [i64_w, i32_w]; rw [c20b0]) | skip)
                    by_cases c21 : (((rd_T42 t280 x7_2).f0) != (x7_2 == a0_2)) = true
                    · rw [if_pos c21] at H
                      have c21b0 : (((rd_T42 t280 x7_2).f0) != (x7_2 == a0_2)) = true := c21
                      (try (have c21b1 : decide (((rd_T42 t280 x7_2).f0) = (x7_2 == a0_2)) = false := by simpa using c21))
                      (try (have c21b2 : (((rd_T42 t280 x7_2).f0) == (x7_2 == a0_2)) = false := by simpa using c21))
                      (try (have c21b3 : ¬ (((rd_T42 t280 x7_2).f0) = (x7_2 == a0_2)) := by simpa using c21))
                      clear c21
                      have H' := Aside0.mk H
                      clear H
                      have p283 : 0 ≤ (x7_2 : Int) := of_decide_eq_true (by first | (with_reducible assumption) | assumption)
                      have q283 : x7_2 < (t280.length : Int) := of_decide_eq_true (by first | (with_reducible assumption) | assumption)
                      obtain ⟨ad283, e283, hx283_0, hx283_1, hx283_2⟩ := at_T42 (Kd.R_reads' HO_6.out).2.2 x7_2 p283 q283
                      cases e283
                      replace p283 := eq_true p283
                      replace q283 := eq_true q283
                      have hcz22_0 : wr.cell? ⟨gb277, 0, none⟩ = some (.int .i64 a0_0) := (blk_cell BK277.out 0).trans rfl
                      have hcz22_1 : wr.cell? ⟨gb277, 1, none⟩ = some (.slice A0_1 l0_1.length c0_1) := (blk_cell BK277.out 1).trans rfl
                      have hcz22_2 : wr.cell? ⟨gb277, 2, none⟩ = some (.int .i64 a0_2) := (blk_cell BK277.out 2).trans rfl
                      have hcz22_3 : wr.cell? ⟨gb277, 3, none⟩ = some (.int .i64 a0_3) := (blk_cell BK277.out 3).trans rfl
                      have hcz22_4 : wr.cell? ⟨gb277, 4, none⟩ = some (.int .i64 a0_4) := (blk_cell BK277.out 4).trans rfl
                      have hfz22_0 := blk_frozen BK277.out 0
                      have hfz22_1 := blk_frozen BK277.out 1
                      have hfz22_2 := blk_frozen BK277.out 2
                      have hfz22_3 := blk_frozen BK277.out 3
                      have hfz22_4 := blk_frozen BK277.out 4
                      go_wp2
                      repeat (go_quiet (fail); try go_wp2)
                      go_meet
                      case rel => exact ⟨_, (true), (by first | rfl | (simp; done) | (simp [*]; done)), H', ⟨by have := HJ3.out; have := HK2.out; first | omega | exact Nat.le_refl _⟩, ⟨by (with_reducible repeat (first | apply Kd.R_alloc | apply Kd.R_drewN | apply Kd.R_drew)); exact HO_6.out⟩, ⟨by (with_reducible repeat (first | refine blk_drewN ?_ _ | refine blk_drew ?_ | refine blk_alloc ?_ _)); exact BK277.out⟩, ⟨by repeat (first | (with_reducible first | exact HB.out | apply below_alloc | apply pw_below_drewN | apply below_drew1 | refine below_set ?_ GE277.out) | exact HB.out)⟩⟩
                    · rw [if_neg c21] at H
                      have c21b0 : (((rd_T42 t280 x7_2).f0) != (x7_2 == a0_2)) = false := by simpa using c21
                      (try (have c21b1 : decide (((rd_T42 t280 x7_2).f0) = (x7_2 == a0_2)) = true := by simpa using c21))
                      (try (have c21b2 : (((rd_T42 t280 x7_2).f0) == (x7_2 == a0_2)) = true := by simpa using c21))
                      clear c21
                      obtain ⟨bq23, hbq23⟩ : ∃ b_ : Bool, b_ = ((rd_T42 t280 x7_2).f0) := ⟨_, rfl⟩
                      replace H : (if bq23 = true then (if ((rd_T42 t280 x7_2).f1) = a0_3 then (if (bq23 = true) then (bootchainlaw39_ScriptFaults.j2 k2 t278 t280 x7_2 false a0_0 l0_1 a0_2 a0_3 a0_4) else (bootchainlaw39_ScriptFaults.j2 k2 t278 t280 x7_2 (((rd_T42 t280 x7_2).f1) != 0) a0_0 l0_1 a0_2 a0_3 a0_4)) else (bootchainlaw39_ScriptFaults.j2 k2 t278 t280 x7_2 true a0_0 l0_1 a0_2 a0_3 a0_4)) else (if (bq23 = true) then (bootchainlaw39_ScriptFaults.j2 k2 t278 t280 x7_2 false a0_0 l0_1 a0_2 a0_3 a0_4) else (bootchainlaw39_ScriptFaults.j2 k2 t278 t280 x7_2 (((rd_T42 t280 x7_2).f1) != 0) a0_0 l0_1 a0_2 a0_3 a0_4))) = some r := by rw [← hbq23] at H; exact H
                      have Nbq23 := Aside0.mk hbq23
                      clear hbq23
                      by_cases c24 : bq23 = true
                      · subst c24
                        have hxe : (x7_2 == a0_2) = true := by have h1 := c21b0; rw [← Nbq23.out] at h1; simpa using h1
                        have H1 : (if ((rd_T42 t280 x7_2).f1) = a0_3 then (if (true = true) then (bootchainlaw39_ScriptFaults.j2 k2 t278 t280 x7_2 false a0_0 l0_1 a0_2 a0_3 a0_4) else (bootchainlaw39_ScriptFaults.j2 k2 t278 t280 x7_2 (((rd_T42 t280 x7_2).f1) != 0) a0_0 l0_1 a0_2 a0_3 a0_4)) else (bootchainlaw39_ScriptFaults.j2 k2 t278 t280 x7_2 true a0_0 l0_1 a0_2 a0_3 a0_4)) = some r := by rw [if_pos rfl] at H; exact H
                        clear H
                        have H := H1
                        clear H1
                        by_cases c25 : ((rd_T42 t280 x7_2).f1) = a0_3
                        · rw [if_pos c25] at H
                          have c25b0 : (((rd_T42 t280 x7_2).f1) == a0_3) = true := beq_iff_eq.mpr c25
                          have c25b1 : (((rd_T42 t280 x7_2).f1) != a0_3) = false := bne_eq_false_iff_eq.mpr c25
                          clear c25
                          by_cases c26 : (true = true)
                          · clear c26
                            have H1 : (bootchainlaw39_ScriptFaults.j2 k2 t278 t280 x7_2 false a0_0 l0_1 a0_2 a0_3 a0_4) = some r := by rw [if_pos rfl] at H; exact H
                            clear H
                            have H := H1
                            clear H1
                            have H' := Aside0.mk H
                            clear H
                            have p283 : 0 ≤ (x7_2 : Int) := of_decide_eq_true (by first | (with_reducible assumption) | assumption)
                            have q283 : x7_2 < (t280.length : Int) := of_decide_eq_true (by first | (with_reducible assumption) | assumption)
                            obtain ⟨ad283, e283, hx283_0, hx283_1, hx283_2⟩ := at_T42 (Kd.R_reads' HO_6.out).2.2 x7_2 p283 q283
                            (try rw [← Nbq23.out] at hx283_0)
                            (try rw [← Nbq23.out] at hx283_2)
                            cases e283
                            replace p283 := eq_true p283
                            replace q283 := eq_true q283
                            have hcz27_0 : wr.cell? ⟨gb277, 0, none⟩ = some (.int .i64 a0_0) := (blk_cell BK277.out 0).trans rfl
                            have hcz27_1 : wr.cell? ⟨gb277, 1, none⟩ = some (.slice A0_1 l0_1.length c0_1) := (blk_cell BK277.out 1).trans rfl
                            have hcz27_2 : wr.cell? ⟨gb277, 2, none⟩ = some (.int .i64 a0_2) := (blk_cell BK277.out 2).trans rfl
                            have hcz27_3 : wr.cell? ⟨gb277, 3, none⟩ = some (.int .i64 a0_3) := (blk_cell BK277.out 3).trans rfl
                            have hcz27_4 : wr.cell? ⟨gb277, 4, none⟩ = some (.int .i64 a0_4) := (blk_cell BK277.out 4).trans rfl
                            have hfz27_0 := blk_frozen BK277.out 0
                            have hfz27_1 := blk_frozen BK277.out 1
                            have hfz27_2 := blk_frozen BK277.out 2
                            have hfz27_3 := blk_frozen BK277.out 3
                            have hfz27_4 := blk_frozen BK277.out 4
                            have p284 : 0 ≤ (x7_2 : Int) := of_decide_eq_true (by first | (with_reducible assumption) | assumption)
                            have q284 : x7_2 < (t280.length : Int) := of_decide_eq_true (by first | (with_reducible assumption) | assumption)
                            obtain ⟨ad284, e284, hx284_0, hx284_1, hx284_2⟩ := at_T42 (Kd.R_reads' HO_6.out).2.2 x7_2 p284 q284
                            (try rw [← Nbq23.out] at hx284_0)
                            (try rw [← Nbq23.out] at hx284_2)
                            obtain rfl : ad283 = ad284 := (by injection e284)
                            replace p284 := eq_true p284
                            replace q284 := eq_true q284
                            have p285 : 0 ≤ (x7_2 : Int) := of_decide_eq_true (by first | (with_reducible assumption) | assumption)
                            have q285 : x7_2 < (t280.length : Int) := of_decide_eq_true (by first | (with_reducible assumption) | assumption)
                            obtain ⟨ad285, e285, hx285_0, hx285_1, hx285_2⟩ := at_T42 (Kd.R_reads' HO_6.out).2.2 x7_2 p285 q285
                            (try rw [← Nbq23.out] at hx285_0)
                            (try rw [← Nbq23.out] at hx285_2)
                            obtain rfl : ad283 = ad285 := (by injection e285)
                            replace p285 := eq_true p285
                            replace q285 := eq_true q285
                            have p286 : 0 ≤ (x7_2 : Int) := of_decide_eq_true (by first | (with_reducible assumption) | assumption)
                            have q286 : x7_2 < (t280.length : Int) := of_decide_eq_true (by first | (with_reducible assumption) | assumption)
                            obtain ⟨ad286, e286, hx286_0, hx286_1, hx286_2⟩ := at_T42 (Kd.R_reads' HO_6.out).2.2 x7_2 p286 q286
                            (try rw [← Nbq23.out] at hx286_0)
                            (try rw [← Nbq23.out] at hx286_2)
                            obtain rfl : ad283 = ad286 := (by injection e286)
                            replace p286 := eq_true p286
                            replace q286 := eq_true q286
                            go_wp2
                            repeat (go_quiet (fail); try go_wp2)
                            go_meet
                            case rel => exact ⟨_, (false), (by first | rfl | (simp; done) | (simp [*]; done)), H', ⟨by have := HJ3.out; have := HK2.out; first | omega | exact Nat.le_refl _⟩, ⟨by (with_reducible repeat (first | apply Kd.R_alloc | apply Kd.R_drewN | apply Kd.R_drew)); exact HO_6.out⟩, ⟨by (with_reducible repeat (first | refine blk_drewN ?_ _ | refine blk_drew ?_ | refine blk_alloc ?_ _)); exact BK277.out⟩, ⟨by repeat (first | (with_reducible first | exact HB.out | apply below_alloc | apply pw_below_drewN | apply below_drew1 | refine below_set ?_ GE277.out) | exact HB.out)⟩⟩
                          · exact absurd rfl c26
                        · rw [if_neg c25] at H
                          have c25b0 : (((rd_T42 t280 x7_2).f1) == a0_3) = false := beq_eq_false_iff_ne.mpr c25
                          have c25b1 : (((rd_T42 t280 x7_2).f1) != a0_3) = true := bne_iff_ne.mpr c25
                          have H' := Aside0.mk H
                          clear H
                          have p283 : 0 ≤ (x7_2 : Int) := of_decide_eq_true (by first | (with_reducible assumption) | assumption)
                          have q283 : x7_2 < (t280.length : Int) := of_decide_eq_true (by first | (with_reducible assumption) | assumption)
                          obtain ⟨ad283, e283, hx283_0, hx283_1, hx283_2⟩ := at_T42 (Kd.R_reads' HO_6.out).2.2 x7_2 p283 q283
                          (try rw [← Nbq23.out] at hx283_0)
                          (try rw [← Nbq23.out] at hx283_2)
                          cases e283
                          replace p283 := eq_true p283
                          replace q283 := eq_true q283
                          have hcz29_0 : wr.cell? ⟨gb277, 0, none⟩ = some (.int .i64 a0_0) := (blk_cell BK277.out 0).trans rfl
                          have hcz29_1 : wr.cell? ⟨gb277, 1, none⟩ = some (.slice A0_1 l0_1.length c0_1) := (blk_cell BK277.out 1).trans rfl
                          have hcz29_2 : wr.cell? ⟨gb277, 2, none⟩ = some (.int .i64 a0_2) := (blk_cell BK277.out 2).trans rfl
                          have hcz29_3 : wr.cell? ⟨gb277, 3, none⟩ = some (.int .i64 a0_3) := (blk_cell BK277.out 3).trans rfl
                          have hcz29_4 : wr.cell? ⟨gb277, 4, none⟩ = some (.int .i64 a0_4) := (blk_cell BK277.out 4).trans rfl
                          have hfz29_0 := blk_frozen BK277.out 0
                          have hfz29_1 := blk_frozen BK277.out 1
                          have hfz29_2 := blk_frozen BK277.out 2
                          have hfz29_3 := blk_frozen BK277.out 3
                          have hfz29_4 := blk_frozen BK277.out 4
                          have p284 : 0 ≤ (x7_2 : Int) := of_decide_eq_true (by first | (with_reducible assumption) | assumption)
                          have q284 : x7_2 < (t280.length : Int) := of_decide_eq_true (by first | (with_reducible assumption) | assumption)
                          obtain ⟨ad284, e284, hx284_0, hx284_1, hx284_2⟩ := at_T42 (Kd.R_reads' HO_6.out).2.2 x7_2 p284 q284
                          (try rw [← Nbq23.out] at hx284_0)
                          (try rw [← Nbq23.out] at hx284_2)
                          obtain rfl : ad283 = ad284 := (by injection e284)
                          replace p284 := eq_true p284
                          replace q284 := eq_true q284
                          have p285 : 0 ≤ (x7_2 : Int) := of_decide_eq_true (by first | (with_reducible assumption) | assumption)
                          have q285 : x7_2 < (t280.length : Int) := of_decide_eq_true (by first | (with_reducible assumption) | assumption)
                          obtain ⟨ad285, e285, hx285_0, hx285_1, hx285_2⟩ := at_T42 (Kd.R_reads' HO_6.out).2.2 x7_2 p285 q285
                          (try rw [← Nbq23.out] at hx285_0)
                          (try rw [← Nbq23.out] at hx285_2)
                          obtain rfl : ad283 = ad285 := (by injection e285)
                          replace p285 := eq_true p285
                          replace q285 := eq_true q285
                          go_wp2
                          repeat (go_quiet (fail); try go_wp2)
                          go_meet
                          case rel => exact ⟨_, (true), (by first | rfl | (simp; done) | (simp [*]; done)), H', ⟨by have := HJ3.out; have := HK2.out; first | omega | exact Nat.le_refl _⟩, ⟨by (with_reducible repeat (first | apply Kd.R_alloc | apply Kd.R_drewN | apply Kd.R_drew)); exact HO_6.out⟩, ⟨by (with_reducible repeat (first | refine blk_drewN ?_ _ | refine blk_drew ?_ | refine blk_alloc ?_ _)); exact BK277.out⟩, ⟨by repeat (first | (with_reducible first | exact HB.out | apply below_alloc | apply pw_below_drewN | apply below_drew1 | refine below_set ?_ GE277.out) | exact HB.out)⟩⟩
                      · replace c24 := Bool.eq_false_iff.mpr c24
                        subst c24
                        have hxe : (x7_2 == a0_2) = false := by have h1 := c21b0; rw [← Nbq23.out] at h1; simpa using h1
                        have H1 : (if (false = true) then (bootchainlaw39_ScriptFaults.j2 k2 t278 t280 x7_2 false a0_0 l0_1 a0_2 a0_3 a0_4) else (bootchainlaw39_ScriptFaults.j2 k2 t278 t280 x7_2 (((rd_T42 t280 x7_2).f1) != 0) a0_0 l0_1 a0_2 a0_3 a0_4)) = some r := by rw [if_neg (show ¬ (false = true) by decide)] at H; exact H
                        clear H
                        have H := H1
                        clear H1
                        by_cases c30 : (false = true)
                        · exact absurd c30 (by decide)
                        · clear c30
                          have H1 : (bootchainlaw39_ScriptFaults.j2 k2 t278 t280 x7_2 (((rd_T42 t280 x7_2).f1) != 0) a0_0 l0_1 a0_2 a0_3 a0_4) = some r := by rw [if_neg (show ¬ (false = true) by decide)] at H; exact H
                          clear H
                          have H := H1
                          clear H1
                          have H' := Aside0.mk H
                          clear H
                          have p283 : 0 ≤ (x7_2 : Int) := of_decide_eq_true (by first | (with_reducible assumption) | assumption)
                          have q283 : x7_2 < (t280.length : Int) := of_decide_eq_true (by first | (with_reducible assumption) | assumption)
                          obtain ⟨ad283, e283, hx283_0, hx283_1, hx283_2⟩ := at_T42 (Kd.R_reads' HO_6.out).2.2 x7_2 p283 q283
                          (try rw [← Nbq23.out] at hx283_0)
                          (try rw [← Nbq23.out] at hx283_2)
                          cases e283
                          replace p283 := eq_true p283
                          replace q283 := eq_true q283
                          have hcz32_0 : wr.cell? ⟨gb277, 0, none⟩ = some (.int .i64 a0_0) := (blk_cell BK277.out 0).trans rfl
                          have hcz32_1 : wr.cell? ⟨gb277, 1, none⟩ = some (.slice A0_1 l0_1.length c0_1) := (blk_cell BK277.out 1).trans rfl
                          have hcz32_2 : wr.cell? ⟨gb277, 2, none⟩ = some (.int .i64 a0_2) := (blk_cell BK277.out 2).trans rfl
                          have hcz32_3 : wr.cell? ⟨gb277, 3, none⟩ = some (.int .i64 a0_3) := (blk_cell BK277.out 3).trans rfl
                          have hcz32_4 : wr.cell? ⟨gb277, 4, none⟩ = some (.int .i64 a0_4) := (blk_cell BK277.out 4).trans rfl
                          have hfz32_0 := blk_frozen BK277.out 0
                          have hfz32_1 := blk_frozen BK277.out 1
                          have hfz32_2 := blk_frozen BK277.out 2
                          have hfz32_3 := blk_frozen BK277.out 3
                          have hfz32_4 := blk_frozen BK277.out 4
                          have p284 : 0 ≤ (x7_2 : Int) := of_decide_eq_true (by first | (with_reducible assumption) | assumption)
                          have q284 : x7_2 < (t280.length : Int) := of_decide_eq_true (by first | (with_reducible assumption) | assumption)
                          obtain ⟨ad284, e284, hx284_0, hx284_1, hx284_2⟩ := at_T42 (Kd.R_reads' HO_6.out).2.2 x7_2 p284 q284
                          (try rw [← Nbq23.out] at hx284_0)
                          (try rw [← Nbq23.out] at hx284_2)
                          obtain rfl : ad283 = ad284 := (by injection e284)
                          replace p284 := eq_true p284
                          replace q284 := eq_true q284
                          have p288 : 0 ≤ (x7_2 : Int) := of_decide_eq_true (by first | (with_reducible assumption) | assumption)
                          have q288 : x7_2 < (t280.length : Int) := of_decide_eq_true (by first | (with_reducible assumption) | assumption)
                          obtain ⟨ad288, e288, hx288_0, hx288_1, hx288_2⟩ := at_T42 (Kd.R_reads' HO_6.out).2.2 x7_2 p288 q288
                          (try rw [← Nbq23.out] at hx288_0)
                          (try rw [← Nbq23.out] at hx288_2)
                          obtain rfl : ad283 = ad288 := (by injection e288)
                          replace p288 := eq_true p288
                          replace q288 := eq_true q288
                          have p289 : 0 ≤ (x7_2 : Int) := of_decide_eq_true (by first | (with_reducible assumption) | assumption)
                          have q289 : x7_2 < (t280.length : Int) := of_decide_eq_true (by first | (with_reducible assumption) | assumption)
                          obtain ⟨ad289, e289, hx289_0, hx289_1, hx289_2⟩ := at_T42 (Kd.R_reads' HO_6.out).2.2 x7_2 p289 q289
                          (try rw [← Nbq23.out] at hx289_0)
                          (try rw [← Nbq23.out] at hx289_2)
                          obtain rfl : ad283 = ad289 := (by injection e289)
                          replace p289 := eq_true p289
                          replace q289 := eq_true q289
                          go_wp2
                          repeat (go_quiet (fail); try go_wp2)
                          go_meet
                          case rel => exact ⟨_, ((((rd_T42 t280 x7_2).f1) != 0)), (by first | rfl | (simp; done) | (simp [*]; done)), H', ⟨by have := HJ3.out; have := HK2.out; first | omega | exact Nat.le_refl _⟩, ⟨by (with_reducible repeat (first | apply Kd.R_alloc | apply Kd.R_drewN | apply Kd.R_drew)); exact HO_6.out⟩, ⟨by (with_reducible repeat (first | refine blk_drewN ?_ _ | refine blk_drew ?_ | refine blk_alloc ?_ _)); exact BK277.out⟩, ⟨by repeat (first | (with_reducible first | exact HB.out | apply below_alloc | apply pw_below_drewN | apply below_drew1 | refine below_set ?_ GE277.out) | exact HB.out)⟩⟩
                  · rw [if_neg c20] at H
                    exact absurd H (by simp)
                case rest =>
                  clear HC19
                  try clear c1
                  try clear c2
                  try clear p2
                  try clear q2
                  try clear hx2
                  try clear c3
                  try clear p6
                  try clear c7
                  try clear c7b0
                  try clear c7b1
                  try clear c12
                  try clear c14
                  try clear c14b0
                  try clear c14b1
                  try clear c18
                  try clear c18b0
                  try clear c20
                  try clear c20b0
                  try clear c21
                  try clear c21b0
                  try clear c21b1
                  try clear c21b2
                  try clear q23
                  try clear c24
                  try clear c25
                  try clear c25b0
                  try clear c25b1
                  try clear c26
                  try clear p28
                  try clear q28
                  try clear hx28
                  try clear c30
                  try clear hcz10_0
                  try clear hcz10_1
                  try clear hcz10_2
                  try clear hcz10_3
                  try clear hcz10_4
                  try clear hcz15_0
                  try clear hcz15_1
                  try clear hcz15_2
                  try clear hcz15_3
                  try clear hcz15_4
                  try clear hcz22_0
                  try clear hcz22_1
                  try clear hcz22_2
                  try clear hcz22_3
                  try clear hcz22_4
                  try clear hcz27_0
                  try clear hcz27_1
                  try clear hcz27_2
                  try clear hcz27_3
                  try clear hcz27_4
                  try clear hcz28_0
                  try clear hcz28_1
                  try clear hcz28_2
                  try clear hcz28_3
                  try clear hcz28_4
                  try clear hcz29_0
                  try clear hcz29_1
                  try clear hcz29_2
                  try clear hcz29_3
                  try clear hcz29_4
                  try clear hcz31_0
                  try clear hcz31_1
                  try clear hcz31_2
                  try clear hcz31_3
                  try clear hcz31_4
                  try clear hcz32_0
                  try clear hcz32_1
                  try clear hcz32_2
                  try clear hcz32_3
                  try clear hcz32_4
                  try clear hcz8_0
                  try clear hcz8_1
                  try clear hcz8_2
                  try clear hcz8_3
                  try clear hcz8_4
                  try clear hfz10_0
                  try clear hfz10_1
                  try clear hfz10_2
                  try clear hfz10_3
                  try clear hfz10_4
                  try clear hfz15_0
                  try clear hfz15_1
                  try clear hfz15_2
                  try clear hfz15_3
                  try clear hfz15_4
                  try clear hfz22_0
                  try clear hfz22_1
                  try clear hfz22_2
                  try clear hfz22_3
                  try clear hfz22_4
                  try clear hfz27_0
                  try clear hfz27_1
                  try clear hfz27_2
                  try clear hfz27_3
                  try clear hfz27_4
                  try clear hfz28_0
                  try clear hfz28_1
                  try clear hfz28_2
                  try clear hfz28_3
                  try clear hfz28_4
                  try clear hfz29_0
                  try clear hfz29_1
                  try clear hfz29_2
                  try clear hfz29_3
                  try clear hfz29_4
                  try clear hfz31_0
                  try clear hfz31_1
                  try clear hfz31_2
                  try clear hfz31_3
                  try clear hfz31_4
                  try clear hfz32_0
                  try clear hfz32_1
                  try clear hfz32_2
                  try clear hfz32_3
                  try clear hfz32_4
                  try clear hfz8_0
                  try clear hfz8_1
                  try clear hfz8_2
                  try clear hfz8_3
                  try clear hfz8_4
                  try clear hx283_0
                  try clear hx283_1
                  try clear hx283_2
                  try clear hx284_0
                  try clear hx284_1
                  try clear hx284_2
                  try clear hx285_0
                  try clear hx285_1
                  try clear hx285_2
                  try clear hx286_0
                  try clear hx286_1
                  try clear hx286_2
                  try clear hx287_0
                  try clear hx287_1
                  try clear hx287_2
                  try clear hx288_0
                  try clear hx288_1
                  try clear hx288_2
                  try clear hx289_0
                  try clear hx289_1
                  try clear hx289_2
                  try clear p2
                  try clear p283
                  try clear p284
                  try clear p285
                  try clear p286
                  try clear p287
                  try clear p288
                  try clear p289
                  try clear p6
                  try clear q283
                  try clear q284
                  try clear q285
                  try clear q286
                  try clear q287
                  try clear q288
                  try clear q289
                  obtain ⟨kq, x76_18, rfl, HA, HJ18, HO_6, BK277, HB⟩ := hcut
                  cases kq with
                  | zero => exact absurd HA.out (by simp [bootchainlaw39_ScriptFaults.j2])
                  | succ kj18 =>
                    have H := HA.out
                    clear HA
                    simp only [bootchainlaw39_ScriptFaults.j2] at H
                    by_cases c33 : x76_18 = true
                    · subst c33
                      have H1 : (some false) = some r := by rw [if_pos rfl] at H; exact H
                      clear H
                      have H := H1
                      clear H1
                      obtain rfl := Option.some.inj H
                      go_wp2
                      repeat (go_quiet (fail); try go_wp2)
                      go_ret
                      exact ⟨by first | rfl | (simp [errW_none, errW_some] <;> rfl) | (simp [*, errW_none, errW_some] <;> rfl), by repeat (first | (with_reducible first | exact HB.out | apply below_alloc | apply pw_below_drewN | apply below_drew1 | refine below_set ?_ GE277.out) | exact HB.out)⟩
                    · replace c33 := Bool.eq_false_iff.mpr c33
                      subst c33
                      have H1 : (if x7_2 ≥ 16 then (if 0 ≤ x7_2 then (if x7_2 < (t280.length : Int) then (if 0 ≤ (mx (wrap64 (x7_2 - 16)) 0) then (if (mx (wrap64 (x7_2 - 16)) 0) < (t280.length : Int) then (if (((rd_T42 t280 x7_2).f2) != ((rd_T42 t280 (mx (wrap64 (x7_2 - 16)) 0)).f2)) = true then (some false) else (if a0_4 = 0 then (if (rd_T42 t280 x7_2).f2 = true then (some false) else (bootchainlaw39_ScriptFaults.l0 kj18 t278 t280 (wrap64 (x7_2 + 1)) a0_0 l0_1 a0_2 a0_3 a0_4)) else (bootchainlaw39_ScriptFaults.l0 kj18 t278 t280 (wrap64 (x7_2 + 1)) a0_0 l0_1 a0_2 a0_3 a0_4))) else (none)) else (none)) else (none)) else (none)) else (if a0_4 = 0 then (if 0 ≤ x7_2 then (if x7_2 < (t280.length : Int) then (if (rd_T42 t280 x7_2).f2 = true then (some false) else (bootchainlaw39_ScriptFaults.l0 kj18 t278 t280 (wrap64 (x7_2 + 1)) a0_0 l0_1 a0_2 a0_3 a0_4)) else (none)) else (none)) else (bootchainlaw39_ScriptFaults.l0 kj18 t278 t280 (wrap64 (x7_2 + 1)) a0_0 l0_1 a0_2 a0_3 a0_4))) = some r := by rw [if_neg (show ¬ (false = true) by decide)] at H; exact H
                      clear H
                      have H := H1
                      clear H1
                      by_cases c34 : x7_2 ≥ 16
                      · rw [if_pos c34] at H
                        have c34b0 : decide (16 ≤ x7_2) = true := decide_eq_true c34
                        clear c34
                        by_cases c35 : 0 ≤ x7_2
                        · rw [if_pos c35] at H
                          have c35b0 : decide (0 ≤ x7_2) = true := decide_eq_true c35
                          clear c35
                          by_cases c36 : x7_2 < (t280.length : Int)
                          · rw [if_pos c36] at H
                            have c36b0 : decide (x7_2 < (t280.length : Int)) = true := decide_eq_true c36
                            clear c36
                            obtain ⟨ji37, hji37⟩ : ∃ j_ : Int, (mx (wrap64 (x7_2 - 16)) 0) = j_ := ⟨_, rfl⟩
                            replace H : (if 0 ≤ (ji37) then (if (ji37) < (t280.length : Int) then (if (((rd_T42 t280 x7_2).f2) != ((rd_T42 t280 (ji37)).f2)) = true then (some false) else (if a0_4 = 0 then (if (rd_T42 t280 x7_2).f2 = true then (some false) else (bootchainlaw39_ScriptFaults.l0 kj18 t278 t280 (wrap64 (x7_2 + 1)) a0_0 l0_1 a0_2 a0_3 a0_4)) else (bootchainlaw39_ScriptFaults.l0 kj18 t278 t280 (wrap64 (x7_2 + 1)) a0_0 l0_1 a0_2 a0_3 a0_4))) else (none)) else (none)) = some r := by first | (rw [hji37] at H; exact H) | (simp only [hji37] at H ⊢; exact H)
                            have hji37_ : (if (wrap64 (x7_2 - 16)) < 0 then 0 else (wrap64 (x7_2 - 16))) = ji37 := hji37
                            by_cases c38 : 0 ≤ (ji37)
                            · rw [if_pos c38] at H
                              have c38b0 : decide (0 ≤ (ji37)) = true := decide_eq_true c38
                              clear c38
                              by_cases c39 : (ji37) < (t280.length : Int)
                              · rw [if_pos c39] at H
                                have c39b0 : decide ((ji37) < (t280.length : Int)) = true := decide_eq_true c39
                                clear c39
                                by_cases c40 : (((rd_T42 t280 x7_2).f2) != ((rd_T42 t280 (ji37)).f2)) = true
                                · rw [if_pos c40] at H
                                  have c40b0 : (((rd_T42 t280 x7_2).f2) != ((rd_T42 t280 (ji37)).f2)) = true := c40
                                  (try (have c40b1 : decide (((rd_T42 t280 x7_2).f2) = ((rd_T42 t280 (ji37)).f2)) = false := by simpa using c40))
                                  (try (have c40b2 : (((rd_T42 t280 x7_2).f2) == ((rd_T42 t280 (ji37)).f2)) = false := by simpa using c40))
                                  (try (have c40b3 : ¬ (((rd_T42 t280 x7_2).f2) = ((rd_T42 t280 (ji37)).f2)) := by simpa using c40))
                                  clear c40
                                  obtain rfl := Option.some.inj H
                                  have p290 : 0 ≤ (x7_2 : Int) := of_decide_eq_true (by first | (with_reducible assumption) | assumption)
                                  have q290 : x7_2 < (t280.length : Int) := of_decide_eq_true (by first | (with_reducible assumption) | assumption)
                                  obtain ⟨ad290, e290, hx290_0, hx290_1, hx290_2⟩ := at_T42 (Kd.R_reads' HO_6.out).2.2 x7_2 p290 q290
                                  cases e290
                                  replace p290 := eq_true p290
                                  replace q290 := eq_true q290
                                  have p291 : 0 ≤ ((ji37) : Int) := of_decide_eq_true (by first | (with_reducible assumption) | assumption)
                                  have q291 : (ji37) < (t280.length : Int) := of_decide_eq_true (by first | (with_reducible assumption) | assumption)
                                  obtain ⟨ad291, e291, hx291_0, hx291_1, hx291_2⟩ := at_T42 (Kd.R_reads' HO_6.out).2.2 (ji37) p291 q291
                                  obtain rfl : ad290 = ad291 := (by injection e291)
                                  replace p291 := eq_true p291
                                  replace q291 := eq_true q291
                                  go_wp2
                                  repeat (go_quiet (fail); try go_wp2)
                                  go_ret
                                  exact ⟨by first | rfl | (simp [errW_none, errW_some] <;> rfl) | (simp only [← hji37]; first | rfl | (simp [errW_none, errW_some] <;> rfl)) | (simp [*, errW_none, errW_some] <;> rfl), by repeat (first | (with_reducible first | exact HB.out | apply below_alloc | apply pw_below_drewN | apply below_drew1 | refine below_set ?_ GE277.out) | exact HB.out)⟩
                                · rw [if_neg c40] at H
                                  have c40b0 : (((rd_T42 t280 x7_2).f2) != ((rd_T42 t280 (ji37)).f2)) = false := by simpa using c40
                                  (try (have c40b1 : decide (((rd_T42 t280 x7_2).f2) = ((rd_T42 t280 (ji37)).f2)) = true := by simpa using c40))
                                  (try (have c40b2 : (((rd_T42 t280 x7_2).f2) == ((rd_T42 t280 (ji37)).f2)) = true := by simpa using c40))
                                  clear c40
                                  by_cases c41 : a0_4 = 0
                                  · rw [if_pos c41] at H
                                    have c41b0 : (a0_4 == 0) = true := beq_iff_eq.mpr c41
                                    have c41b1 : (a0_4 != 0) = false := bne_eq_false_iff_eq.mpr c41
                                    clear c41
                                    obtain ⟨bq42, hbq42⟩ : ∃ b_ : Bool, b_ = ((rd_T42 t280 x7_2).f2) := ⟨_, rfl⟩
                                    replace H : (if bq42 = true then (some false) else (bootchainlaw39_ScriptFaults.l0 kj18 t278 t280 (wrap64 (x7_2 + 1)) a0_0 l0_1 a0_2 a0_3 a0_4)) = some r := by rw [← hbq42] at H; exact H
                                    have Nbq42 := Aside0.mk hbq42
                                    clear hbq42
                                    by_cases c43 : bq42 = true
                                    · subst c43
                                      have hxn : (rd_T42 t280 (ji37)).f2 = true := by have h1 := c40b0; rw [← Nbq42.out] at h1; simpa using h1
                                      have H1 : (some false) = some r := by rw [if_pos rfl] at H; exact H
                                      clear H
                                      have H := H1
                                      clear H1
                                      obtain rfl := Option.some.inj H
                                      have p290 : 0 ≤ (x7_2 : Int) := of_decide_eq_true (by first | (with_reducible assumption) | assumption)
                                      have q290 : x7_2 < (t280.length : Int) := of_decide_eq_true (by first | (with_reducible assumption) | assumption)
                                      obtain ⟨ad290, e290, hx290_0, hx290_1, hx290_2⟩ := at_T42 (Kd.R_reads' HO_6.out).2.2 x7_2 p290 q290
                                      (try rw [← Nbq42.out] at hx290_0)
                                      (try rw [← Nbq42.out] at hx290_2)
                                      cases e290
                                      replace p290 := eq_true p290
                                      replace q290 := eq_true q290
                                      have p291 : 0 ≤ ((ji37) : Int) := of_decide_eq_true (by first | (with_reducible assumption) | assumption)
                                      have q291 : (ji37) < (t280.length : Int) := of_decide_eq_true (by first | (with_reducible assumption) | assumption)
                                      obtain ⟨ad291, e291, hx291_0, hx291_1, hx291_2⟩ := at_T42 (Kd.R_reads' HO_6.out).2.2 (ji37) p291 q291
                                      (try rw [← Nbq42.out] at hx291_0)
                                      (try rw [← Nbq42.out] at hx291_2)
                                      obtain rfl : ad290 = ad291 := (by injection e291)
                                      replace p291 := eq_true p291
                                      replace q291 := eq_true q291
                                      have hcz44_0 : wc.cell? ⟨gb277, 0, none⟩ = some (.int .i64 a0_0) := (blk_cell BK277.out 0).trans rfl
                                      have hcz44_1 : wc.cell? ⟨gb277, 1, none⟩ = some (.slice A0_1 l0_1.length c0_1) := (blk_cell BK277.out 1).trans rfl
                                      have hcz44_2 : wc.cell? ⟨gb277, 2, none⟩ = some (.int .i64 a0_2) := (blk_cell BK277.out 2).trans rfl
                                      have hcz44_3 : wc.cell? ⟨gb277, 3, none⟩ = some (.int .i64 a0_3) := (blk_cell BK277.out 3).trans rfl
                                      have hcz44_4 : wc.cell? ⟨gb277, 4, none⟩ = some (.int .i64 a0_4) := (blk_cell BK277.out 4).trans rfl
                                      have hfz44_0 := blk_frozen BK277.out 0
                                      have hfz44_1 := blk_frozen BK277.out 1
                                      have hfz44_2 := blk_frozen BK277.out 2
                                      have hfz44_3 := blk_frozen BK277.out 3
                                      have hfz44_4 := blk_frozen BK277.out 4
                                      have p292 : 0 ≤ (x7_2 : Int) := of_decide_eq_true (by first | (with_reducible assumption) | assumption)
                                      have q292 : x7_2 < (t280.length : Int) := of_decide_eq_true (by first | (with_reducible assumption) | assumption)
                                      obtain ⟨ad292, e292, hx292_0, hx292_1, hx292_2⟩ := at_T42 (Kd.R_reads' HO_6.out).2.2 x7_2 p292 q292
                                      (try rw [← Nbq42.out] at hx292_0)
                                      (try rw [← Nbq42.out] at hx292_2)
                                      obtain rfl : ad290 = ad292 := (by injection e292)
                                      replace p292 := eq_true p292
                                      replace q292 := eq_true q292
                                      go_wp2
                                      repeat (go_quiet (fail); try go_wp2)
                                      go_ret
                                      exact ⟨by first | rfl | (simp [errW_none, errW_some] <;> rfl) | (simp only [← hji37]; first | rfl | (simp [errW_none, errW_some] <;> rfl)) | (simp [*, errW_none, errW_some] <;> rfl), by repeat (first | (with_reducible first | exact HB.out | apply below_alloc | apply pw_below_drewN | apply below_drew1 | refine below_set ?_ GE277.out) | exact HB.out)⟩
                                    · replace c43 := Bool.eq_false_iff.mpr c43
                                      subst c43
                                      have hxn : (rd_T42 t280 (ji37)).f2 = false := by have h1 := c40b0; rw [← Nbq42.out] at h1; simpa using h1
                                      have H1 : (bootchainlaw39_ScriptFaults.l0 kj18 t278 t280 (wrap64 (x7_2 + 1)) a0_0 l0_1 a0_2 a0_3 a0_4) = some r := by rw [if_neg (show ¬ (false = true) by decide)] at H; exact H
                                      clear H
                                      have H := H1
                                      clear H1
                                      have H' := Aside0.mk H
                                      clear H
                                      have p290 : 0 ≤ (x7_2 : Int) := of_decide_eq_true (by first | (with_reducible assumption) | assumption)
                                      have q290 : x7_2 < (t280.length : Int) := of_decide_eq_true (by first | (with_reducible assumption) | assumption)
                                      obtain ⟨ad290, e290, hx290_0, hx290_1, hx290_2⟩ := at_T42 (Kd.R_reads' HO_6.out).2.2 x7_2 p290 q290
                                      (try rw [← Nbq42.out] at hx290_0)
                                      (try rw [← Nbq42.out] at hx290_2)
                                      cases e290
                                      replace p290 := eq_true p290
                                      replace q290 := eq_true q290
                                      have p291 : 0 ≤ ((ji37) : Int) := of_decide_eq_true (by first | (with_reducible assumption) | assumption)
                                      have q291 : (ji37) < (t280.length : Int) := of_decide_eq_true (by first | (with_reducible assumption) | assumption)
                                      obtain ⟨ad291, e291, hx291_0, hx291_1, hx291_2⟩ := at_T42 (Kd.R_reads' HO_6.out).2.2 (ji37) p291 q291
                                      (try rw [← Nbq42.out] at hx291_0)
                                      (try rw [← Nbq42.out] at hx291_2)
                                      obtain rfl : ad290 = ad291 := (by injection e291)
                                      replace p291 := eq_true p291
                                      replace q291 := eq_true q291
                                      have hcz45_0 : wc.cell? ⟨gb277, 0, none⟩ = some (.int .i64 a0_0) := (blk_cell BK277.out 0).trans rfl
                                      have hcz45_1 : wc.cell? ⟨gb277, 1, none⟩ = some (.slice A0_1 l0_1.length c0_1) := (blk_cell BK277.out 1).trans rfl
                                      have hcz45_2 : wc.cell? ⟨gb277, 2, none⟩ = some (.int .i64 a0_2) := (blk_cell BK277.out 2).trans rfl
                                      have hcz45_3 : wc.cell? ⟨gb277, 3, none⟩ = some (.int .i64 a0_3) := (blk_cell BK277.out 3).trans rfl
                                      have hcz45_4 : wc.cell? ⟨gb277, 4, none⟩ = some (.int .i64 a0_4) := (blk_cell BK277.out 4).trans rfl
                                      have hfz45_0 := blk_frozen BK277.out 0
                                      have hfz45_1 := blk_frozen BK277.out 1
                                      have hfz45_2 := blk_frozen BK277.out 2
                                      have hfz45_3 := blk_frozen BK277.out 3
                                      have hfz45_4 := blk_frozen BK277.out 4
                                      have p292 : 0 ≤ (x7_2 : Int) := of_decide_eq_true (by first | (with_reducible assumption) | assumption)
                                      have q292 : x7_2 < (t280.length : Int) := of_decide_eq_true (by first | (with_reducible assumption) | assumption)
                                      obtain ⟨ad292, e292, hx292_0, hx292_1, hx292_2⟩ := at_T42 (Kd.R_reads' HO_6.out).2.2 x7_2 p292 q292
                                      (try rw [← Nbq42.out] at hx292_0)
                                      (try rw [← Nbq42.out] at hx292_2)
                                      obtain rfl : ad290 = ad292 := (by injection e292)
                                      replace p292 := eq_true p292
                                      replace q292 := eq_true q292
                                      go_wp2
                                      repeat (go_quiet (fail); try go_wp2)
                                      go_roundg kj18
                                      case measure => have := HJ3.out; have := HK2.out; have := HJ18.out; omega
                                      case rel => exact ⟨(wrap64 (x7_2 + 1)), (by first | rfl | (simp; done) | (simp [*]; done)), H', ⟨by have := HJ3.out; have := HK2.out; have := HJ18.out; omega⟩, ⟨by (with_reducible repeat (first | apply Kd.R_alloc | apply Kd.R_drewN | apply Kd.R_drew)); exact HO_6.out⟩, ⟨by (with_reducible repeat (first | refine blk_drewN ?_ _ | refine blk_drew ?_ | refine blk_alloc ?_ _)); exact BK277.out⟩, ⟨by repeat (first | (with_reducible first | exact HB.out | apply below_alloc | apply pw_below_drewN | apply below_drew1 | refine below_set ?_ GE277.out) | exact HB.out)⟩⟩
                                  · rw [if_neg c41] at H
                                    have c41b0 : (a0_4 == 0) = false := beq_eq_false_iff_ne.mpr c41
                                    have c41b1 : (a0_4 != 0) = true := bne_iff_ne.mpr c41
                                    have H' := Aside0.mk H
                                    clear H
                                    have p290 : 0 ≤ (x7_2 : Int) := of_decide_eq_true (by first | (with_reducible assumption) | assumption)
                                    have q290 : x7_2 < (t280.length : Int) := of_decide_eq_true (by first | (with_reducible assumption) | assumption)
                                    obtain ⟨ad290, e290, hx290_0, hx290_1, hx290_2⟩ := at_T42 (Kd.R_reads' HO_6.out).2.2 x7_2 p290 q290
                                    cases e290
                                    replace p290 := eq_true p290
                                    replace q290 := eq_true q290
                                    have p291 : 0 ≤ ((ji37) : Int) := of_decide_eq_true (by first | (with_reducible assumption) | assumption)
                                    have q291 : (ji37) < (t280.length : Int) := of_decide_eq_true (by first | (with_reducible assumption) | assumption)
                                    obtain ⟨ad291, e291, hx291_0, hx291_1, hx291_2⟩ := at_T42 (Kd.R_reads' HO_6.out).2.2 (ji37) p291 q291
                                    obtain rfl : ad290 = ad291 := (by injection e291)
                                    replace p291 := eq_true p291
                                    replace q291 := eq_true q291
                                    have hcz46_0 : wc.cell? ⟨gb277, 0, none⟩ = some (.int .i64 a0_0) := (blk_cell BK277.out 0).trans rfl
                                    have hcz46_1 : wc.cell? ⟨gb277, 1, none⟩ = some (.slice A0_1 l0_1.length c0_1) := (blk_cell BK277.out 1).trans rfl
                                    have hcz46_2 : wc.cell? ⟨gb277, 2, none⟩ = some (.int .i64 a0_2) := (blk_cell BK277.out 2).trans rfl
                                    have hcz46_3 : wc.cell? ⟨gb277, 3, none⟩ = some (.int .i64 a0_3) := (blk_cell BK277.out 3).trans rfl
                                    have hcz46_4 : wc.cell? ⟨gb277, 4, none⟩ = some (.int .i64 a0_4) := (blk_cell BK277.out 4).trans rfl
                                    have hfz46_0 := blk_frozen BK277.out 0
                                    have hfz46_1 := blk_frozen BK277.out 1
                                    have hfz46_2 := blk_frozen BK277.out 2
                                    have hfz46_3 := blk_frozen BK277.out 3
                                    have hfz46_4 := blk_frozen BK277.out 4
                                    go_wp2
                                    repeat (go_quiet (fail); try go_wp2)
                                    go_roundg kj18
                                    case measure => have := HJ3.out; have := HK2.out; have := HJ18.out; omega
                                    case rel => exact ⟨(wrap64 (x7_2 + 1)), (by first | rfl | (simp; done) | (simp [*]; done)), H', ⟨by have := HJ3.out; have := HK2.out; have := HJ18.out; omega⟩, ⟨by (with_reducible repeat (first | apply Kd.R_alloc | apply Kd.R_drewN | apply Kd.R_drew)); exact HO_6.out⟩, ⟨by (with_reducible repeat (first | refine blk_drewN ?_ _ | refine blk_drew ?_ | refine blk_alloc ?_ _)); exact BK277.out⟩, ⟨by repeat (first | (with_reducible first | exact HB.out | apply below_alloc | apply pw_below_drewN | apply below_drew1 | refine below_set ?_ GE277.out) | exact HB.out)⟩⟩
                              · rw [if_neg c39] at H
                                exact absurd H (by simp)
                            · rw [if_neg c38] at H
                              exact absurd H (by simp)
                          · rw [if_neg c36] at H
                            exact absurd H (by simp)
                        · rw [if_neg c35] at H
                          exact absurd H (by simp)
                      · rw [if_neg c34] at H
                        have c34b0 : decide (16 ≤ x7_2) = false := decide_eq_false c34
                        clear c34
                        by_cases c47 : a0_4 = 0
                        · rw [if_pos c47] at H
                          have c47b0 : (a0_4 == 0) = true := beq_iff_eq.mpr c47
                          have c47b1 : (a0_4 != 0) = false := bne_eq_false_iff_eq.mpr c47
                          clear c47
                          by_cases c48 : 0 ≤ x7_2
                          · rw [if_pos c48] at H
                            have c48b0 : decide (0 ≤ x7_2) = true := decide_eq_true c48
                            clear c48
                            by_cases c49 : x7_2 < (t280.length : Int)
                            · rw [if_pos c49] at H
                              have c49b0 : decide (x7_2 < (t280.length : Int)) = true := decide_eq_true c49
                              clear c49
                              obtain ⟨bq50, hbq50⟩ : ∃ b_ : Bool, b_ = ((rd_T42 t280 x7_2).f2) := ⟨_, rfl⟩
                              replace H : (if bq50 = true then (some false) else (bootchainlaw39_ScriptFaults.l0 kj18 t278 t280 (wrap64 (x7_2 + 1)) a0_0 l0_1 a0_2 a0_3 a0_4)) = some r := by rw [← hbq50] at H; exact H
                              have Nbq50 := Aside0.mk hbq50
                              clear hbq50
                              by_cases c51 : bq50 = true
                              · subst c51
                                have H1 : (some false) = some r := by rw [if_pos rfl] at H; exact H
                                clear H
                                have H := H1
                                clear H1
                                obtain rfl := Option.some.inj H
                                have hcz52_0 : wc.cell? ⟨gb277, 0, none⟩ = some (.int .i64 a0_0) := (blk_cell BK277.out 0).trans rfl
                                have hcz52_1 : wc.cell? ⟨gb277, 1, none⟩ = some (.slice A0_1 l0_1.length c0_1) := (blk_cell BK277.out 1).trans rfl
                                have hcz52_2 : wc.cell? ⟨gb277, 2, none⟩ = some (.int .i64 a0_2) := (blk_cell BK277.out 2).trans rfl
                                have hcz52_3 : wc.cell? ⟨gb277, 3, none⟩ = some (.int .i64 a0_3) := (blk_cell BK277.out 3).trans rfl
                                have hcz52_4 : wc.cell? ⟨gb277, 4, none⟩ = some (.int .i64 a0_4) := (blk_cell BK277.out 4).trans rfl
                                have hfz52_0 := blk_frozen BK277.out 0
                                have hfz52_1 := blk_frozen BK277.out 1
                                have hfz52_2 := blk_frozen BK277.out 2
                                have hfz52_3 := blk_frozen BK277.out 3
                                have hfz52_4 := blk_frozen BK277.out 4
                                have p293 : 0 ≤ (x7_2 : Int) := of_decide_eq_true (by first | (with_reducible assumption) | assumption)
                                have q293 : x7_2 < (t280.length : Int) := of_decide_eq_true (by first | (with_reducible assumption) | assumption)
                                obtain ⟨ad293, e293, hx293_0, hx293_1, hx293_2⟩ := at_T42 (Kd.R_reads' HO_6.out).2.2 x7_2 p293 q293
                                (try rw [← Nbq50.out] at hx293_0)
                                (try rw [← Nbq50.out] at hx293_2)
                                cases e293
                                replace p293 := eq_true p293
                                replace q293 := eq_true q293
                                go_wp2
                                repeat (go_quiet (fail); try go_wp2)
                                go_ret
                                exact ⟨by first | rfl | (simp [errW_none, errW_some] <;> rfl) | (simp [*, errW_none, errW_some] <;> rfl), by repeat (first | (with_reducible first | exact HB.out | apply below_alloc | apply pw_below_drewN | apply below_drew1 | refine below_set ?_ GE277.out) | exact HB.out)⟩
                              · replace c51 := Bool.eq_false_iff.mpr c51
                                subst c51
                                have H1 : (bootchainlaw39_ScriptFaults.l0 kj18 t278 t280 (wrap64 (x7_2 + 1)) a0_0 l0_1 a0_2 a0_3 a0_4) = some r := by rw [if_neg (show ¬ (false = true) by decide)] at H; exact H
                                clear H
                                have H := H1
                                clear H1
                                have H' := Aside0.mk H
                                clear H
                                have hcz53_0 : wc.cell? ⟨gb277, 0, none⟩ = some (.int .i64 a0_0) := (blk_cell BK277.out 0).trans rfl
                                have hcz53_1 : wc.cell? ⟨gb277, 1, none⟩ = some (.slice A0_1 l0_1.length c0_1) := (blk_cell BK277.out 1).trans rfl
                                have hcz53_2 : wc.cell? ⟨gb277, 2, none⟩ = some (.int .i64 a0_2) := (blk_cell BK277.out 2).trans rfl
                                have hcz53_3 : wc.cell? ⟨gb277, 3, none⟩ = some (.int .i64 a0_3) := (blk_cell BK277.out 3).trans rfl
                                have hcz53_4 : wc.cell? ⟨gb277, 4, none⟩ = some (.int .i64 a0_4) := (blk_cell BK277.out 4).trans rfl
                                have hfz53_0 := blk_frozen BK277.out 0
                                have hfz53_1 := blk_frozen BK277.out 1
                                have hfz53_2 := blk_frozen BK277.out 2
                                have hfz53_3 := blk_frozen BK277.out 3
                                have hfz53_4 := blk_frozen BK277.out 4
                                have p293 : 0 ≤ (x7_2 : Int) := of_decide_eq_true (by first | (with_reducible assumption) | assumption)
                                have q293 : x7_2 < (t280.length : Int) := of_decide_eq_true (by first | (with_reducible assumption) | assumption)
                                obtain ⟨ad293, e293, hx293_0, hx293_1, hx293_2⟩ := at_T42 (Kd.R_reads' HO_6.out).2.2 x7_2 p293 q293
                                (try rw [← Nbq50.out] at hx293_0)
                                (try rw [← Nbq50.out] at hx293_2)
                                cases e293
                                replace p293 := eq_true p293
                                replace q293 := eq_true q293
                                go_wp2
                                repeat (go_quiet (fail); try go_wp2)
                                go_roundg kj18
                                case measure => have := HJ3.out; have := HK2.out; have := HJ18.out; omega
                                case rel => exact ⟨(wrap64 (x7_2 + 1)), (by first | rfl | (simp; done) | (simp [*]; done)), H', ⟨by have := HJ3.out; have := HK2.out; have := HJ18.out; omega⟩, ⟨by (with_reducible repeat (first | apply Kd.R_alloc | apply Kd.R_drewN | apply Kd.R_drew)); exact HO_6.out⟩, ⟨by (with_reducible repeat (first | refine blk_drewN ?_ _ | refine blk_drew ?_ | refine blk_alloc ?_ _)); exact BK277.out⟩, ⟨by repeat (first | (with_reducible first | exact HB.out | apply below_alloc | apply pw_below_drewN | apply below_drew1 | refine below_set ?_ GE277.out) | exact HB.out)⟩⟩
                            · rw [if_neg c49] at H
                              exact absurd H (by simp)
                          · rw [if_neg c48] at H
                            exact absurd H (by simp)
                        · rw [if_neg c47] at H
                          have c47b0 : (a0_4 == 0) = false := beq_eq_false_iff_ne.mpr c47
                          have c47b1 : (a0_4 != 0) = true := bne_iff_ne.mpr c47
                          have H' := Aside0.mk H
                          clear H
                          have hcz54_0 : wc.cell? ⟨gb277, 0, none⟩ = some (.int .i64 a0_0) := (blk_cell BK277.out 0).trans rfl
                          have hcz54_1 : wc.cell? ⟨gb277, 1, none⟩ = some (.slice A0_1 l0_1.length c0_1) := (blk_cell BK277.out 1).trans rfl
                          have hcz54_2 : wc.cell? ⟨gb277, 2, none⟩ = some (.int .i64 a0_2) := (blk_cell BK277.out 2).trans rfl
                          have hcz54_3 : wc.cell? ⟨gb277, 3, none⟩ = some (.int .i64 a0_3) := (blk_cell BK277.out 3).trans rfl
                          have hcz54_4 : wc.cell? ⟨gb277, 4, none⟩ = some (.int .i64 a0_4) := (blk_cell BK277.out 4).trans rfl
                          have hfz54_0 := blk_frozen BK277.out 0
                          have hfz54_1 := blk_frozen BK277.out 1
                          have hfz54_2 := blk_frozen BK277.out 2
                          have hfz54_3 := blk_frozen BK277.out 3
                          have hfz54_4 := blk_frozen BK277.out 4
                          go_wp2
                          repeat (go_quiet (fail); try go_wp2)
                          go_roundg kj18
                          case measure => have := HJ3.out; have := HK2.out; have := HJ18.out; omega
                          case rel => exact ⟨(wrap64 (x7_2 + 1)), (by first | rfl | (simp; done) | (simp [*]; done)), H', ⟨by have := HJ3.out; have := HK2.out; have := HJ18.out; omega⟩, ⟨by (with_reducible repeat (first | apply Kd.R_alloc | apply Kd.R_drewN | apply Kd.R_drew)); exact HO_6.out⟩, ⟨by (with_reducible repeat (first | refine blk_drewN ?_ _ | refine blk_drew ?_ | refine blk_alloc ?_ _)); exact BK277.out⟩, ⟨by repeat (first | (with_reducible first | exact HB.out | apply below_alloc | apply pw_below_drewN | apply below_drew1 | refine below_set ?_ GE277.out) | exact HB.out)⟩⟩
              · rw [if_neg c18] at H
                have c18b0 : decide (x7_2 < (t280.length : Int)) = false := decide_eq_false c18
                clear c18
                obtain rfl := Option.some.inj H
                go_wp2
                repeat (go_quiet (fail); try go_wp2)
                go_ret
                exact ⟨by first | rfl | (simp [errW_none, errW_some] <;> rfl) | (simp [*, errW_none, errW_some] <;> rfl), by repeat (first | (with_reducible first | exact HB.out | apply below_alloc | apply pw_below_drewN | apply below_drew1 | refine below_set ?_ GE277.out) | exact HB.out)⟩
        · rw [if_neg c14] at H
          have c14b0 : ((t280.length : Int) == (wrap64 (a1))) = false := beq_eq_false_iff_ne.mpr c14
          have c14b1 : ((t280.length : Int) != (wrap64 (a1))) = true := bne_iff_ne.mpr c14
          obtain rfl := Option.some.inj H
          have hcz55_0 : wc.cell? ⟨gb277, 0, none⟩ = some (.int .i64 a0_0) := (blk_cell BK277.out 0).trans rfl
          have hcz55_1 : wc.cell? ⟨gb277, 1, none⟩ = some (.slice A0_1 l0_1.length c0_1) := (blk_cell BK277.out 1).trans rfl
          have hcz55_2 : wc.cell? ⟨gb277, 2, none⟩ = some (.int .i64 a0_2) := (blk_cell BK277.out 2).trans rfl
          have hcz55_3 : wc.cell? ⟨gb277, 3, none⟩ = some (.int .i64 a0_3) := (blk_cell BK277.out 3).trans rfl
          have hcz55_4 : wc.cell? ⟨gb277, 4, none⟩ = some (.int .i64 a0_4) := (blk_cell BK277.out 4).trans rfl
          have hfz55_0 := blk_frozen BK277.out 0
          have hfz55_1 := blk_frozen BK277.out 1
          have hfz55_2 := blk_frozen BK277.out 2
          have hfz55_3 := blk_frozen BK277.out 3
          have hfz55_4 := blk_frozen BK277.out 4
          go_wp2_with (first | (go_at_call 20; (with_reducible refine (script_Faults.calls a0_0 _ _ l0_1 a0_2 a0_3 a0_4 (wrap64 (a1)) t280 _ ?side1 ?side2 A13.out).mono ?_); (case side1 => repeat (first | exact (Kd.C_below HR0_1.out HB.out) | (with_reducible refine Kd.C_alloc ?_ _) | (with_reducible refine Kd.C_drewN ?_ _) | (with_reducible refine Kd.C_drew ?_))); (case side2 => exact HC0_1.out); rintro e w56 ⟨v281, rfl, ho0, hb⟩; have n0_ := Aside0.mk (Kd.R_lower ho0 (below_size (by repeat (first | (with_reducible first | exact HB.out | apply below_alloc | apply pw_below_drewN | apply below_drew1 | refine below_set ?_ GE277.out) | exact HB.out)))); have n1_ := Aside0.mk (blk_below (g := gb277) (o := .cells #[.int .i64 a0_0, .slice A0_1 l0_1.length c0_1, .int .i64 a0_2, .int .i64 a0_3, .int .i64 a0_4] 31 (0, 0)) (by (with_reducible repeat (first | refine blk_drewN ?_ _ | refine blk_drew ?_ | refine blk_alloc ?_ _)); exact BK277.out) hb); have n2_ := Aside0.mk (below_step (by repeat (first | (with_reducible first | exact HB.out | apply below_alloc | apply pw_below_drewN | apply below_drew1 | refine below_set ?_ GE277.out) | exact HB.out)) hb); clear BK277; clear HB; have HO282 := n0_; have BK277 := n1_; have HB := n2_; clear n0_ n1_ n2_; (try clear hb); (try clear hb2); (try clear hk); (try clear hi); (try clear ho0); obtain ⟨Ao57, co57, eo57⟩ := Kd.R_slice HO282.out; subst eo57))
          repeat (go_quiet (first | (go_at_call 20; (with_reducible refine (script_Faults.calls a0_0 _ _ l0_1 a0_2 a0_3 a0_4 (wrap64 (a1)) t280 _ ?side1 ?side2 A13.out).mono ?_); (case side1 => repeat (first | exact (Kd.C_below HR0_1.out HB.out) | (with_reducible refine Kd.C_alloc ?_ _) | (with_reducible refine Kd.C_drewN ?_ _) | (with_reducible refine Kd.C_drew ?_))); (case side2 => exact HC0_1.out); rintro e w56 ⟨v281, rfl, ho0, hb⟩; have n0_ := Aside0.mk (Kd.R_lower ho0 (below_size (by repeat (first | (with_reducible first | exact HB.out | apply below_alloc | apply pw_below_drewN | apply below_drew1 | refine below_set ?_ GE277.out) | exact HB.out)))); have n1_ := Aside0.mk (blk_below (g := gb277) (o := .cells #[.int .i64 a0_0, .slice A0_1 l0_1.length c0_1, .int .i64 a0_2, .int .i64 a0_3, .int .i64 a0_4] 31 (0, 0)) (by (with_reducible repeat (first | refine blk_drewN ?_ _ | refine blk_drew ?_ | refine blk_alloc ?_ _)); exact BK277.out) hb); have n2_ := Aside0.mk (below_step (by repeat (first | (with_reducible first | exact HB.out | apply below_alloc | apply pw_below_drewN | apply below_drew1 | refine below_set ?_ GE277.out) | exact HB.out)) hb); clear BK277; clear HB; have HO282 := n0_; have BK277 := n1_; have HB := n2_; clear n0_ n1_ n2_; (try clear hb); (try clear hb2); (try clear hk); (try clear hi); (try clear ho0); obtain ⟨Ao57, co57, eo57⟩ := Kd.R_slice HO282.out; subst eo57)); try go_wp2_with (first | (go_at_call 20; (with_reducible refine (script_Faults.calls a0_0 _ _ l0_1 a0_2 a0_3 a0_4 (wrap64 (a1)) t280 _ ?side1 ?side2 A13.out).mono ?_); (case side1 => repeat (first | exact (Kd.C_below HR0_1.out HB.out) | (with_reducible refine Kd.C_alloc ?_ _) | (with_reducible refine Kd.C_drewN ?_ _) | (with_reducible refine Kd.C_drew ?_))); (case side2 => exact HC0_1.out); rintro e w56 ⟨v281, rfl, ho0, hb⟩; have n0_ := Aside0.mk (Kd.R_lower ho0 (below_size (by repeat (first | (with_reducible first | exact HB.out | apply below_alloc | apply pw_below_drewN | apply below_drew1 | refine below_set ?_ GE277.out) | exact HB.out)))); have n1_ := Aside0.mk (blk_below (g := gb277) (o := .cells #[.int .i64 a0_0, .slice A0_1 l0_1.length c0_1, .int .i64 a0_2, .int .i64 a0_3, .int .i64 a0_4] 31 (0, 0)) (by (with_reducible repeat (first | refine blk_drewN ?_ _ | refine blk_drew ?_ | refine blk_alloc ?_ _)); exact BK277.out) hb); have n2_ := Aside0.mk (below_step (by repeat (first | (with_reducible first | exact HB.out | apply below_alloc | apply pw_below_drewN | apply below_drew1 | refine below_set ?_ GE277.out) | exact HB.out)) hb); clear BK277; clear HB; have HO282 := n0_; have BK277 := n1_; have HB := n2_; clear n0_ n1_ n2_; (try clear hb); (try clear hb2); (try clear hk); (try clear hi); (try clear ho0); obtain ⟨Ao57, co57, eo57⟩ := Kd.R_slice HO282.out; subst eo57)))
          go_ret
          exact ⟨by first | rfl | (simp [errW_none, errW_some] <;> rfl) | (simp [*, errW_none, errW_some] <;> rfl), by repeat (first | (with_reducible first | exact HB.out | apply below_alloc | apply pw_below_drewN | apply below_drew1 | refine below_set ?_ GE277.out) | exact HB.out)⟩

end Go.Proofs.YtinmehodkeofaaaDoor.Q
