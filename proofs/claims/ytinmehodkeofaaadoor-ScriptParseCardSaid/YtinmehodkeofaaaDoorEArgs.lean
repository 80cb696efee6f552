/- Arguments that came in: a command, a row of numbers, a row of commands. -/
import Derived.Test.YtinmehodkeofaaaDoorERow
import Derived.Deep.Slices
import Derived.Deep.Fields
import Derived.ChangeSame
import Derived.ChangeOld
import Derived.SizedLaws
namespace Go.Proofs.YtinmehodkeofaaaDoor.Q
open Go.ChangeShapes Go.WideShapes Go.ChangeAt Go.RowKit Go.Deep Go.Proofs.YtinmehodkeofaaaDoorW.PrintWords
set_option linter.unusedVariables false
set_option linter.unusedSimpArgs false

theorem F_all {α : Type} {d : Kd α} (hd : Kd.Heap d) {W : World} {A : Option Addr} {n : Nat} {xs : List α} (h : Kd.C d W A n xs) : Kd.F d W (fun _ => True) A n xs :=
  fun W' hW => Kd.Heap.C hd (fun k hk => hW k trivial hk) h
theorem heap_k31 : Kd.Heap k31 := Kd.heap_iso _ (Kd.heap_pair (Kd.heap_int _) (Kd.heap_pair (Kd.heap_slice 3 (Kd.heap_int _)) (Kd.heap_pair (Kd.heap_int _) (Kd.heap_pair (Kd.heap_int _) (Kd.heap_int _)))))

def Num64 (n : Int) : Prop := (Lit.int .i64 n).wf = true
def NumsOf (c : S31) : Prop := Num64 c.f0 ∧ Num64 c.f2 ∧ Num64 c.f3 ∧ Num64 c.f4 ∧ ∀ z ∈ c.f1, Num64 z

section
variable {H : Type} {enc : TypeId × Value → H} {w : World} {base : Nat} {spare : Nat → Bool} {held : Bool}

theorem getD_take (zs : List Int) (len j : Nat) (h : j < len) : (zs.take len).getD j 0 = zs.getD j 0 := by
  simp [List.getD_eq_getElem?_getD, List.getElem?_take, h]

theorem ints_of {fuel : Nat} {v : Value} {x : DataW H × List MemPlace} (h : DataW.trod enc Tryd.prog w base spare held fuel 29 [v] = some x) :
    ∃ (A : Option Addr) (c : Nat) (l : List Int), v = .slice A l.length c ∧ l.length ≤ c ∧ Kd.C (Kd.int .i64) w A l.length l ∧ ∀ z ∈ l, Num64 z := by
  rcases open_ints Tryd.underlying29 Tryd.underlying3 cells3 h with ⟨hcs, _⟩ | ⟨a, len, cap, zs, hcs, hb, hl, hm, hz, hx, hcell, hwf⟩
  · injection hcs with hv
    exact ⟨none, 0, [], hv, Nat.le_refl _, Kd.C_nil _ _, fun z hz => by cases hz⟩
  · injection hcs with hv
    have hlz : len ≤ zs.length := by rw [hz]; split <;> omega
    have hlen : (zs.take len).length = len := by simp; omega
    refine ⟨some a, cap, zs.take len, by rw [hlen]; exact hv, by rw [hlen]; exact hl, ⟨rfl, ?_, fun _ => ⟨a, rfl, fun j p hj => ?_⟩⟩, fun z hz => hwf z (List.mem_of_mem_take hz)⟩
    · rw [hlen]
      unfold maxLen at hm
      omega
    · have hjl : j < (zs.take len).length := (List.getElem?_eq_some_iff.1 hj).1
      rw [hlen] at hjl
      have hc := hcell j (by omega)
      have hp : p = zs.getD j 0 := by
        rw [List.getElem?_take, if_pos hjl] at hj
        rw [List.getD_eq_getElem?_getD, hj]
        rfl
      refine ⟨[.int .i64 p], rfl, rfl, fun i u hu => ?_⟩
      match i, hu with
      | 0, hu =>
        obtain rfl := Option.some.inj hu
        show w.cell? (a.add (j * 1 + 0)) = _
        rw [Nat.mul_one, Nat.add_zero, hc, hp]
      | i + 1, hu => simp at hu

set_option maxRecDepth 100000 in
theorem cmd_cells {fuel : Nat} {cs : List Value} {x : DataW H × List MemPlace} (h : DataW.trod enc Tryd.prog w base spare held fuel 31 cs = some x) :
    ∃ (c : S31) (A : Option Addr) (k : Nat), cs = [.int .i64 c.f0, .slice A c.f1.length k, .int .i64 c.f2, .int .i64 c.f3, .int .i64 c.f4] ∧ c.f1.length ≤ k ∧ Kd.C (Kd.int .i64) w A c.f1.length c.f1 ∧ NumsOf c := by
  obtain ⟨ys, n, _, rfl, hl, hyl, hf⟩ := DataW.trod_struct Tryd.underlying31 h
  have h5 : cs.length = 5 := by rw [hl]; kernel_rfl
  have c3 := cells3
  have c29 : Tryd.prog.cellsOf 29 = 1 := by kernel_rfl
  match cs, h5 with
  | [v0, v1, v2, v3, v4], _ =>
    have g : ∀ i (hi : i < ys.length), ys[i]? = some ys[i] := fun i hi => List.getElem?_eq_getElem hi
    have hy5 : ys.length = 5 := hyl
    have t0 : DataW.trod enc Tryd.prog w base spare held n 3 (([v0, v1, v2, v3, v4].drop 0).take (Tryd.prog.cellsOf 3)) = ys[0]? := hf 0 _ rfl
    have t1 : DataW.trod enc Tryd.prog w base spare held n 29 (([v0, v1, v2, v3, v4].drop 1).take (Tryd.prog.cellsOf 29)) = ys[1]? := hf 1 _ rfl
    have t2 : DataW.trod enc Tryd.prog w base spare held n 3 (([v0, v1, v2, v3, v4].drop 2).take (Tryd.prog.cellsOf 3)) = ys[2]? := hf 2 _ rfl
    have t3 : DataW.trod enc Tryd.prog w base spare held n 3 (([v0, v1, v2, v3, v4].drop 3).take (Tryd.prog.cellsOf 3)) = ys[3]? := hf 3 _ rfl
    have t4 : DataW.trod enc Tryd.prog w base spare held n 3 (([v0, v1, v2, v3, v4].drop 4).take (Tryd.prog.cellsOf 3)) = ys[4]? := hf 4 _ rfl
    rw [g 0 (by omega)] at t0
    rw [g 1 (by omega)] at t1
    rw [g 2 (by omega)] at t2
    rw [g 3 (by omega)] at t3
    rw [g 4 (by omega)] at t4
    simp only [c3, c29, List.drop_zero, List.drop_succ_cons, List.take_succ_cons, List.take_zero] at t0 t1 t2 t3 t4
    obtain ⟨a0, e0, _, w0⟩ := DataW.trod_int Tryd.underlying3 t0
    obtain ⟨a2, e2, _, w2⟩ := DataW.trod_int Tryd.underlying3 t2
    obtain ⟨a3, e3, _, w3⟩ := DataW.trod_int Tryd.underlying3 t3
    obtain ⟨a4, e4, _, w4⟩ := DataW.trod_int Tryd.underlying3 t4
    obtain ⟨A, k, l, e1, hk, hC, w1⟩ := ints_of t1
    injection e0 with e0; injection e2 with e2; injection e3 with e3; injection e4 with e4
    subst e0 e1 e2 e3 e4
    exact ⟨⟨a0, l, a2, a3, a4⟩, A, k, rfl, hk, hC, w0, w2, w3, w4, w1⟩

theorem cmd_of {v : Value} {d : DataW H} {p : List MemPlace} (h : DataW.Trod enc Tryd.prog w base spare held 31 v d p) :
    ∃ (c : S31) (A : Option Addr) (k : Nat), v.cells.toList = [.int .i64 c.f0, .slice A c.f1.length k, .int .i64 c.f2, .int .i64 c.f3, .int .i64 c.f4] ∧ c.f1.length ≤ k ∧ Kd.C (Kd.int .i64) w A c.f1.length c.f1 ∧ NumsOf c := by
  obtain ⟨m, hm⟩ := h
  exact cmd_cells hm
theorem agg_of_cells {v : Value} {v0 v1 v2 v3 v4 : Value} (h : v.cells.toList = [v0, v1, v2, v3, v4]) : v = .agg #[v0, v1, v2, v3, v4] := by
  cases v <;> simp [Value.cells] at h
  rename_i cs
  obtain ⟨l⟩ := cs
  simp at h
  rw [h]

instance : Inhabited S31 := ⟨z31⟩
theorem cells31 : Tryd.prog.cellsOf 31 = 5 := by kernel_rfl

theorem cmds_of {A : Option Addr} {len cap : Nat} {d : DataW H} {p : List MemPlace} (h : DataW.Trod enc Tryd.prog w base spare held 23 (.slice A len cap) d p) :
    ∃ l : List S31, l.length = len ∧ len ≤ cap ∧ Kd.C k31 w A len l ∧ ∀ c ∈ l, NumsOf c := by
  obtain ⟨fuel, hf⟩ := h
  rcases open_slice Tryd.underlying23 hf with ⟨hcs, _⟩ | ⟨x, ln, cp, m, n, D, Pl, hcs, hb, hl, hm, hmm, _, hi⟩
  · simp [Value.cells] at hcs
    obtain ⟨rfl, rfl, rfl⟩ := hcs
    exact ⟨[], rfl, Nat.le_refl _, Kd.C_nil _ _, fun c hc => by cases hc⟩
  · simp [Value.cells] at hcs
    obtain ⟨rfl, rfl, rfl⟩ := hcs
    have hlm : len ≤ m := by rw [hmm]; split <;> omega
    obtain ⟨f, hf⟩ := choose_lt (n := len) (p := fun i (t : S31) => NumsOf t ∧ ∃ cs, k31.K w t cs ∧ ∀ j u, cs[j]? = some u → w.cell? (x.add (i * 5 + j)) = some u) (by
      intro i hlt
      obtain ⟨cs', hc, ht'⟩ := hi i (by omega)
      rw [cells31] at hc
      obtain ⟨c, A1, k1, rfl, hk, hC, hN⟩ := cmd_cells ht'
      obtain ⟨_, hcl, hat⟩ := World.cells?_some hc
      refine ⟨c, hN, _, k31_mk w c hk hC, fun j u hu => ?_⟩
      have hj : j < 5 := (List.getElem?_eq_some_iff.1 hu).1
      have := hat j hj
      rw [← Go.Deep.add_add, this, hu])
    refine ⟨(List.range len).map f, by simp, hl, ⟨by simp, by unfold maxLen at hm; omega, fun _ => ⟨x, rfl, fun j t hj => ?_⟩⟩, fun c hc => ?_⟩
    · have hjl : j < len := by
        have := (List.getElem?_eq_some_iff.1 hj).1
        simpa using this
      have ht : t = f j := by
        rw [List.getElem?_map, List.getElem?_range hjl] at hj
        simpa using hj.symm
      subst ht
      obtain ⟨_, cs, hK, hc⟩ := hf j hjl
      exact ⟨cs, k31.K_len hK, hK, hc⟩
    · obtain ⟨i, hi', rfl⟩ := List.mem_map.1 hc
      exact (hf i (List.mem_range.1 hi')).1
end

end Go.Proofs.YtinmehodkeofaaaDoor.Q
