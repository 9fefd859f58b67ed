/- tree.Size, fits and Check at a tree that the reference takes. -/
import Derived.Test.YtmphigeefppfpaaDoorBb
namespace Go.Proofs.YtmphigeefppfpaaDoor.H
open Go.RowKit Go.Proofs.YtmphigeefppfpaaDoorW.PrintWords Go.Proofs.YtmphigeefppfpaaDoorW.PrintLast Go.Proofs.YtmphigeefppfpaaDoorW.PrintMore
open Go.Proofs.YtmphigeefppfpaaDoor.PSpecPaths (S28 k28 rd_T28 z28 at_T28)
set_option linter.unusedVariables false

theorem below_of_grown {w W W1 : World} {p : Nat} (h : Below w.heap.size w W) (hp : w.heap.size ≤ p) (hg : W.grownBy W1 (some p)) : Below w.heap.size w W1 := pw_below_grown h (some p) h.size hg (fun k hk => by cases hk; exact hp)
set_option maxHeartbeats 2000000 in
theorem size_calls (t : S28) (ht : nodes t ≤ 20000) (A : Option Addr) (c : Nat) (w : World) (hC : Kd.C k28 w A t.f1.length t.f1) (hc : t.f1.length ≤ c) :
    Calls Tryd.prog 45 #[.agg #[.int .i64 t.f0, .slice A t.f1.length c]] w fun E w' => E = .returned (.tuple #[.int .i64 (nodes t : Int), .int .i64 (depth t : Int)]) ∧ Below w.heap.size w w' := by
  have HM := Aside0.mk (measure_calls w (w.heap.size + 1) (Nat.le_succ _) _ t (Nat.le_refl _) ht A c 20000 ((w.alloc (.cells #[.int .i64 t.f0, .slice A t.f1.length c] 28)).alloc (.cells #[.int .i64 20000] 3)) hC hc (below_alloc (below_alloc (Below.refl _ _) _) _) (blk_at2 w _ _) (by omega) (by omega))
  have HB := Aside0.mk (show Below w.heap.size w ((w.alloc (.cells #[.int .i64 t.f0, .slice A t.f1.length c] 28)).alloc (.cells #[.int .i64 20000] 3)) from below_alloc (below_alloc (Below.refl _ _) _) _)
  have HX := Aside0.mk (blk_alloc (blk_new w (.cells #[.int .i64 t.f0, .slice A t.f1.length c] 28)) (.cells #[.int .i64 20000] 3))
  have HT := Aside0.mk ht
  clear hC hc ht
  go_enter Tryd.func45, Tryd.ntmps45
  go_upto_region 2 with (fail)
  generalize ((w.alloc (.cells #[.int .i64 t.f0, .slice A t.f1.length c] 28)).alloc (.cells #[.int .i64 20000] 3)) = W1 at *
  have hb0 : W1.cell? ⟨w.heap.size, 0, none⟩ = some (.int .i64 t.f0) := (blk_cell HX.out 0).trans rfl
  have hb1 : W1.cell? ⟨w.heap.size, 1, none⟩ = some (.slice A t.f1.length c) := (blk_cell HX.out 1).trans rfl
  go_wp2_with fail
  refine (HM.out).mono ?_
  rintro E w2 ⟨rfl, hP, hG⟩
  have HB2 := Aside0.mk (below_of_grown HB.out (Nat.le_succ _) hG)
  have hneg : ¬ (20000 - (nodes t : Int)) < 0 := by have := HT.out; omega
  have hq : w2.cell? ⟨w.heap.size + 1, 0, none⟩ = some (.int .i64 (20000 - (nodes t : Int))) := (blk_cell hP 0).trans rfl
  clear hG hP hb0 hb1 HM HX HB
  go_wp2
  go_ret2
  refine ⟨?_, HB2.out⟩
  rw [show (20000 : Int) - (20000 - (nodes t : Int)) = nodes t by omega]
  rfl
theorem fits_calls (rk : List Int) (t : S28) (ht : treeOk rk t = true) (A : Option Addr) (c : Nat) (w : World) (hC : Kd.C k28 w A t.f1.length t.f1) (hc : t.f1.length ≤ c) :
    Calls Tryd.prog 39 #[.agg #[.int .i64 t.f0, .slice A t.f1.length c]] w fun E w' => E = .returned (.bool true) ∧ Below w.heap.size w w' := by
  simp only [treeOk, Bool.and_eq_true, decide_eq_true_eq] at ht
  obtain ⟨⟨h1, h2⟩, _⟩ := ht
  have HS := Aside0.mk fun W (hW : Below w.heap.size w W) => size_calls t h1 A c W (Kd.C_below hC hW) hc
  have k1 : (nodes t : Int) ≤ 20000 := by omega
  have k2 : (depth t : Int) ≤ 200 := by omega
  clear hC hc h1 h2
  go_enter Tryd.func39, Tryd.ntmps39
  go_wp2_with fail
  refine (HS.out _ (below_alloc (Below.refl _ _) _)).mono ?_
  rintro E w2 ⟨rfl, hb⟩
  have HB2 := Aside0.mk (below_then (below_alloc (Below.refl w.heap.size w) (.cells #[.int .i64 t.f0, .slice A t.f1.length c] 28)) (by simp) hb)
  clear hb HS
  go_wp2
  go_ret
  exact ⟨rfl, HB2.out⟩
theorem tcheck_calls (rk : List Int) (t : S28) (hrk : ranksB rk = true) (ht : treeOk rk t = true) (A1 : Option Addr) (c1 : Nat) (A : Option Addr) (c : Nat) (w : World) (hr : Kd.C (Kd.int .i64) w A1 rk.length rk) (hc1 : rk.length ≤ c1) (hC : Kd.C k28 w A t.f1.length t.f1) (hc : t.f1.length ≤ c) :
    Calls Tryd.prog 29 #[.slice A1 rk.length c1, .agg #[.int .i64 t.f0, .slice A t.f1.length c]] w fun E w' => E = .returned (.int .i64 0) ∧ Below w.heap.size w w' := by
  have HR := Aside0.mk fun W (hW : Below w.heap.size w W) => ranks_calls A1 c1 rk W (Kd.C_below hr hW) hc1
  rw [hrk] at HR
  have HF := Aside0.mk fun W (hW : Below w.heap.size w W) => fits_calls rk t ht A c W (Kd.C_below hC hW) hc
  have HO := Aside0.mk (show ∀ W, Below w.heap.size w W → Calls Tryd.prog 40 #[.slice A1 rk.length c1, .agg #[.int .i64 t.f0, .slice A t.f1.length c]] W fun E w' => E = .returned (.bool true) ∧ Below W.heap.size W w' from fun W hW => by
    simp only [treeOk, Bool.and_eq_true, decide_eq_true_eq] at ht
    obtain ⟨⟨h1, h2⟩, h3⟩ := ht
    have e := tover_ev rk _ t (Nat.le_refl _) h1
    rw [h3] at e
    obtain ⟨k, hk⟩ := e.rounds
    exact PSpecPaths.tree_over.calls k A1 c1 rk t.f0 A c t.f1 true W (Kd.C_below hr hW) hc1 (Kd.C_below hC hW) hc hk)
  clear hrk ht hr hc1 hC hc
  go_enter Tryd.func29, Tryd.ntmps29
  have HX := Aside0.mk (blk_new w (.cells #[.int .i64 t.f0, .slice A t.f1.length c] 28))
  have HB := Aside0.mk (below_alloc (Below.refl w.heap.size w) (.cells #[.int .i64 t.f0, .slice A t.f1.length c] 28))
  go_upto_region 1 with (fail)
  generalize (w.alloc (.cells #[.int .i64 t.f0, .slice A t.f1.length c] 28)) = W1 at *
  go_wp2_with fail
  refine (HR.out _ HB.out).mono ?_
  rintro E w2 ⟨rfl, hb⟩
  have HB2 := Aside0.mk (below_then HB.out (HB.out).size hb)
  have HX2 := Aside0.mk (blk_below HX.out hb)
  clear hb HB HX HR
  have hb0 : w2.cell? ⟨w.heap.size, 0, none⟩ = some (.int .i64 t.f0) := (blk_cell HX2.out 0).trans rfl
  have hb1 : w2.cell? ⟨w.heap.size, 1, none⟩ = some (.slice A t.f1.length c) := (blk_cell HX2.out 1).trans rfl
  go_wp2_with fail
  refine (HF.out _ HB2.out).mono ?_
  rintro E w3 ⟨rfl, hb⟩
  have HB3 := Aside0.mk (below_then HB2.out (HB2.out).size hb)
  have HX3 := Aside0.mk (blk_below HX2.out hb)
  clear hb HB2 HX2 HF hb0 hb1
  have hb0 : w3.cell? ⟨w.heap.size, 0, none⟩ = some (.int .i64 t.f0) := (blk_cell HX3.out 0).trans rfl
  have hb1 : w3.cell? ⟨w.heap.size, 1, none⟩ = some (.slice A t.f1.length c) := (blk_cell HX3.out 1).trans rfl
  go_wp2_with fail
  refine (HO.out _ HB3.out).mono ?_
  rintro E w4 ⟨rfl, hb⟩
  have HB4 := Aside0.mk (below_then HB3.out (HB3.out).size hb)
  clear hb HB3 HX3 HO hb0 hb1
  go_wp2
  go_ret
  exact ⟨rfl, HB4.out⟩
end Go.Proofs.YtmphigeefppfpaaDoor.H
