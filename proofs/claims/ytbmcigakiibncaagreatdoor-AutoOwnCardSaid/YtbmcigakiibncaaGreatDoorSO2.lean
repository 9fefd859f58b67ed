/- What autoOwn_calls, handed_and_shaped, own, laidOut, laid7, mx_of_shaped, tabD_of_laid, arg_auto, arg_tree needs, out of my texts, by a program (slim.py). -/
import Derived.Test.YtbmcigakiibncaaGreatDoorSO1
namespace Go.Proofs.YtbmcigakiibncaaGreatDoor.Q
open Go.RowKit Go.Proofs.YtbmcigakiibncaaGreatDoorW.PrintWords Go.Proofs.YtbmcigakiibncaaGreatDoorW.PrintLast Go.Proofs.YtbmcigakiibncaaGreatDoorW.PrintMore
attribute [local go_sem] max2_int min2_int max_two min_two max_three min_three max_four min_four
set_option linter.unusedVariables false
set_option linter.unusedSimpArgs false
attribute [local go_sem high] eqA83
def auto_Before.f (a0_0 : Int) (a0_1 : Int) (a1_0 : Int) (a1_1 : Int) : Option (Int) := if a0_0 = a1_0 then (some (wrap64 (a0_1 - a1_1))) else (some (wrap64 (a0_0 - a1_0)))
set_option maxHeartbeats 8000000 in
set_option maxRecDepth 100000 in
theorem auto_Before.calls (a0_0 : Int) (a0_1 : Int) (a1_0 : Int) (a1_1 : Int) (r : Int) (w : World) (h : auto_Before.f a0_0 a0_1 a1_0 a1_1 = some r) :
    Calls Tryz.prog 76 #[.agg #[.int .i64 a0_0, .int .i64 a0_1], .agg #[.int .i64 a1_0, .int .i64 a1_1]] w fun e w' => e = .returned (.int .i64 r) ∧ Below w.heap.size w w' := by
  have hu83 := Tryz.underlying83
  have HB := Aside0.mk (Below.refl w.heap.size w)
  have H : (if a0_0 = a1_0 then (some (wrap64 (a0_1 - a1_1))) else (some (wrap64 (a0_0 - a1_0)))) = some r := h
  clear h
  by_cases c3 : a0_0 = a1_0
  · rw [if_pos c3] at H
    have c3b0 : (a0_0 == a1_0) = true := beq_iff_eq.mpr c3
    have c3b1 : (a0_0 != a1_0) = false := bne_eq_false_iff_eq.mpr c3
    clear c3
    obtain rfl := Option.some.inj H
    go_enter Tryz.func76, Tryz.ntmps76
    go_wp2_with (first | ((with_reducible refine gate_dst (N := 2) rfl ?_); refine box_event ?hg (N := 2) ?hd (cs := #[.int .i64 a0_0, .int .i64 a0_1]) (t := 83) ?hr ?_; (case hd => rfl); (case hg => rfl); (case hr => first | (go_simp; done) | (go_simp; rfl)); intro gb257 hg w4 hbox hb; have n0_ := Aside0.mk (below_step (by repeat (first | (with_reducible first | exact HB.out | apply below_alloc | apply pw_below_drewN | apply below_drew1) | exact HB.out)) hb); have n1_ := Aside0.mk (hbox); have n2_ := Aside0.mk ((by rw [hg]; exact (below_size (by repeat (first | (with_reducible first | exact HB.out | apply below_alloc | apply pw_below_drewN | apply below_drew1) | exact HB.out))) : w.heap.size ≤ gb257)); have n3_ := Aside0.mk ((by rw [hg]; exact (below_size (by repeat (first | (with_reducible first | exact HB.out | apply below_alloc | apply pw_below_drewN | apply below_drew1) | exact HB.out))) : w.heap.size ≤ gb257)); clear HB; have HB := n0_; have BK257 := n1_; have GW257 := n2_; have GE257 := n3_; clear n0_ n1_ n2_ n3_; clear hb hbox hg) | ((with_reducible refine gate_dst (N := 3) rfl ?_); refine box_event ?hg (N := 3) ?hd (cs := #[.int .i64 a1_0, .int .i64 a1_1]) (t := 83) ?hr ?_; (case hd => rfl); (case hg => rfl); (case hr => first | (go_simp; done) | (go_simp; rfl)); intro gb258 hg w5 hbox hb; have n0_ := Aside0.mk (blk_below (g := gb257) (o := .cells #[.int .i64 a0_0, .int .i64 a0_1] 83 (0, 0)) (by (with_reducible repeat (first | refine blk_drewN ?_ _ | refine blk_drew ?_ | refine blk_alloc ?_ _)); exact BK257.out) hb); have n1_ := Aside0.mk (below_step (by repeat (first | (with_reducible first | exact HB.out | apply below_alloc | apply pw_below_drewN | apply below_drew1 | refine below_set ?_ GE257.out) | exact HB.out)) hb); have n2_ := Aside0.mk (hbox); have n3_ := Aside0.mk ((by rw [hg]; exact (below_size (by repeat (first | (with_reducible first | exact HB.out | apply below_alloc | apply pw_below_drewN | apply below_drew1 | refine below_set ?_ GE257.out) | exact HB.out))) : w.heap.size ≤ gb258)); have n4_ := Aside0.mk ((by rw [hg]; exact (below_size (by repeat (first | (with_reducible first | exact HB.out | apply below_alloc | apply pw_below_drewN | apply below_drew1 | refine below_set ?_ GE257.out) | exact HB.out))) : w.heap.size ≤ gb258)); have n5_ := Aside0.mk ((by rw [hg]; exact Nat.ne_of_lt (blk_lt (g := gb257) (o := .cells #[.int .i64 a0_0, .int .i64 a0_1] 83 (0, 0)) (by (with_reducible repeat (first | refine blk_drewN ?_ _ | refine blk_drew ?_ | refine blk_alloc ?_ _)); exact BK257.out)) : gb257 ≠ gb258)); have n6_ := Aside0.mk ((by rw [hg]; exact Nat.ne_of_gt (blk_lt (g := gb257) (o := .cells #[.int .i64 a0_0, .int .i64 a0_1] 83 (0, 0)) (by (with_reducible repeat (first | refine blk_drewN ?_ _ | refine blk_drew ?_ | refine blk_alloc ?_ _)); exact BK257.out)) : gb258 ≠ gb257)); clear BK257; clear HB; have BK257 := n0_; have HB := n1_; have BK258 := n2_; have GW258 := n3_; have GE258 := n4_; have NB257_258 := n5_; have NB258_257 := n6_; clear n0_ n1_ n2_ n3_ n4_ n5_ n6_; clear hb hbox hg; have hnb6 := NB257_258.out; have hnc6 := NB258_257.out; have hcz7_0 : w5.cell? ⟨gb257, 0, none⟩ = some (.int .i64 a0_0) := (blk_cell BK257.out 0).trans rfl; have hcz7_1 : w5.cell? ⟨gb257, 1, none⟩ = some (.int .i64 a0_1) := (blk_cell BK257.out 1).trans rfl; have hfz7_0 := blk_frozen BK257.out 0; have hfz7_1 := blk_frozen BK257.out 1; have hcz8_0 : w5.cell? ⟨gb258, 0, none⟩ = some (.int .i64 a1_0) := (blk_cell BK258.out 0).trans rfl; have hcz8_1 : w5.cell? ⟨gb258, 1, none⟩ = some (.int .i64 a1_1) := (blk_cell BK258.out 1).trans rfl; have hfz8_0 := blk_frozen BK258.out 0; have hfz8_1 := blk_frozen BK258.out 1))
    go_ret
    exact ⟨by first | rfl | (simp [errW_none, errW_some] <;> rfl) | (simp [*, errW_none, errW_some] <;> rfl), by repeat (first | (with_reducible first | exact HB.out | apply below_alloc | apply pw_below_drewN | apply below_drew1 | refine below_set ?_ GE257.out | refine below_set ?_ GE258.out) | exact HB.out)⟩
  · rw [if_neg c3] at H
    have c3b0 : (a0_0 == a1_0) = false := beq_eq_false_iff_ne.mpr c3
    have c3b1 : (a0_0 != a1_0) = true := bne_iff_ne.mpr c3
    obtain rfl := Option.some.inj H
    go_enter Tryz.func76, Tryz.ntmps76
    go_wp2_with (first | ((with_reducible refine gate_dst (N := 2) rfl ?_); refine box_event ?hg (N := 2) ?hd (cs := #[.int .i64 a0_0, .int .i64 a0_1]) (t := 83) ?hr ?_; (case hd => rfl); (case hg => rfl); (case hr => first | (go_simp; done) | (go_simp; rfl)); intro gb257 hg w9 hbox hb; have n0_ := Aside0.mk (below_step (by repeat (first | (with_reducible first | exact HB.out | apply below_alloc | apply pw_below_drewN | apply below_drew1) | exact HB.out)) hb); have n1_ := Aside0.mk (hbox); have n2_ := Aside0.mk ((by rw [hg]; exact (below_size (by repeat (first | (with_reducible first | exact HB.out | apply below_alloc | apply pw_below_drewN | apply below_drew1) | exact HB.out))) : w.heap.size ≤ gb257)); have n3_ := Aside0.mk ((by rw [hg]; exact (below_size (by repeat (first | (with_reducible first | exact HB.out | apply below_alloc | apply pw_below_drewN | apply below_drew1) | exact HB.out))) : w.heap.size ≤ gb257)); clear HB; have HB := n0_; have BK257 := n1_; have GW257 := n2_; have GE257 := n3_; clear n0_ n1_ n2_ n3_; clear hb hbox hg) | ((with_reducible refine gate_dst (N := 3) rfl ?_); refine box_event ?hg (N := 3) ?hd (cs := #[.int .i64 a1_0, .int .i64 a1_1]) (t := 83) ?hr ?_; (case hd => rfl); (case hg => rfl); (case hr => first | (go_simp; done) | (go_simp; rfl)); intro gb258 hg w10 hbox hb; have n0_ := Aside0.mk (blk_below (g := gb257) (o := .cells #[.int .i64 a0_0, .int .i64 a0_1] 83 (0, 0)) (by (with_reducible repeat (first | refine blk_drewN ?_ _ | refine blk_drew ?_ | refine blk_alloc ?_ _)); exact BK257.out) hb); have n1_ := Aside0.mk (below_step (by repeat (first | (with_reducible first | exact HB.out | apply below_alloc | apply pw_below_drewN | apply below_drew1 | refine below_set ?_ GE257.out) | exact HB.out)) hb); have n2_ := Aside0.mk (hbox); have n3_ := Aside0.mk ((by rw [hg]; exact (below_size (by repeat (first | (with_reducible first | exact HB.out | apply below_alloc | apply pw_below_drewN | apply below_drew1 | refine below_set ?_ GE257.out) | exact HB.out))) : w.heap.size ≤ gb258)); have n4_ := Aside0.mk ((by rw [hg]; exact (below_size (by repeat (first | (with_reducible first | exact HB.out | apply below_alloc | apply pw_below_drewN | apply below_drew1 | refine below_set ?_ GE257.out) | exact HB.out))) : w.heap.size ≤ gb258)); have n5_ := Aside0.mk ((by rw [hg]; exact Nat.ne_of_lt (blk_lt (g := gb257) (o := .cells #[.int .i64 a0_0, .int .i64 a0_1] 83 (0, 0)) (by (with_reducible repeat (first | refine blk_drewN ?_ _ | refine blk_drew ?_ | refine blk_alloc ?_ _)); exact BK257.out)) : gb257 ≠ gb258)); have n6_ := Aside0.mk ((by rw [hg]; exact Nat.ne_of_gt (blk_lt (g := gb257) (o := .cells #[.int .i64 a0_0, .int .i64 a0_1] 83 (0, 0)) (by (with_reducible repeat (first | refine blk_drewN ?_ _ | refine blk_drew ?_ | refine blk_alloc ?_ _)); exact BK257.out)) : gb258 ≠ gb257)); clear BK257; clear HB; have BK257 := n0_; have HB := n1_; have BK258 := n2_; have GW258 := n3_; have GE258 := n4_; have NB257_258 := n5_; have NB258_257 := n6_; clear n0_ n1_ n2_ n3_ n4_ n5_ n6_; clear hb hbox hg; have hnb11 := NB257_258.out; have hnc11 := NB258_257.out; have hcz12_0 : w10.cell? ⟨gb257, 0, none⟩ = some (.int .i64 a0_0) := (blk_cell BK257.out 0).trans rfl; have hcz12_1 : w10.cell? ⟨gb257, 1, none⟩ = some (.int .i64 a0_1) := (blk_cell BK257.out 1).trans rfl; have hfz12_0 := blk_frozen BK257.out 0; have hfz12_1 := blk_frozen BK257.out 1; have hcz13_0 : w10.cell? ⟨gb258, 0, none⟩ = some (.int .i64 a1_0) := (blk_cell BK258.out 0).trans rfl; have hcz13_1 : w10.cell? ⟨gb258, 1, none⟩ = some (.int .i64 a1_1) := (blk_cell BK258.out 1).trans rfl; have hfz13_0 := blk_frozen BK258.out 0; have hfz13_1 := blk_frozen BK258.out 1))
    go_ret
    exact ⟨by first | rfl | (simp [errW_none, errW_some] <;> rfl) | (simp [*, errW_none, errW_some] <;> rfl), by repeat (first | (with_reducible first | exact HB.out | apply below_alloc | apply pw_below_drewN | apply below_drew1 | refine below_set ?_ GE257.out | refine below_set ?_ GE258.out) | exact HB.out)⟩
def slices_Index_int_int.l0 : Nat → List Int → Int → Int → Int → Option (Int)
  | 0, _, _, _, _ => none
  | k + 1, x0, x1, x7, x8 => if x8 < x7 then (if 0 ≤ x8 then (if x8 < (x0.length : Int) then (if x1 = (rd x0 x8) then (some x8) else (slices_Index_int_int.l0 k x0 x1 x7 (wrap64 (x8 + 1)))) else (none)) else (none)) else (some (-1))
def slices_Index_int_int.f (k : Nat) (l0 : List Int) (a1 : Int) : Option (Int) := slices_Index_int_int.l0 k l0 a1 (l0.length : Int) 0
set_option maxHeartbeats 8000000 in
set_option maxRecDepth 100000 in
theorem slices_Index_int_int.calls (k : Nat) (A0 : Option Addr) (c0 : Nat) (l0 : List Int) (a1 : Int) (r : Int) (w : World) (hr0 : Kd.C (Kd.int .i64) w A0 l0.length l0) (hc0 : l0.length ≤ c0) (h : slices_Index_int_int.f k l0 a1 = some r) :
    Calls Tryz.prog 92 #[.slice A0 l0.length c0, .int .i64 a1] w fun e w' => e = .returned (.int .i64 r) ∧ Drawn0 w w' := by
  have HR0 := Aside0.mk hr0
  have HC0 := Aside0.mk hc0
  clear hr0 hc0
  have H : (slices_Index_int_int.l0 k l0 a1 (l0.length : Int) 0) = some r := h
  clear h
  have H' := Aside0.mk H
  clear H
  go_enter Tryz.func92, Tryz.ntmps92
  go_wp2
  go_loopg [8] k (fun kq v8 w' => ∃ (x8_1 : Int), v8 = .int .i64 x8_1 ∧ Aside0 (slices_Index_int_int.l0 kq l0 a1 (l0.length : Int) x8_1 = some r) ∧ Aside0 (kq ≤ k) ∧ Drawn0 w w')
  case atStart => exact ⟨(0), (by first | rfl | (simp; done) | (simp [*]; done)), H', ⟨Nat.le_refl _⟩, by repeat (first | exact Drawn0.refl _ | apply Drawn0.step)⟩
  case round =>
    clear H'
    try clear p2
    obtain ⟨x8_1, rfl, HA, HK1, ⟨m1, rfl⟩⟩ := hrel
    cases gk with
    | zero => exact absurd HA.out (by simp [slices_Index_int_int.l0])
    | succ k1 =>
      have H := HA.out
      clear HA
      simp only [slices_Index_int_int.l0] at H
      by_cases c3 : x8_1 < (l0.length : Int)
      · rw [if_pos c3] at H
        have c3b0 : decide (x8_1 < (l0.length : Int)) = true := decide_eq_true c3
        clear c3
        by_cases c4 : 0 ≤ x8_1
        · rw [if_pos c4] at H
          have c4b0 : decide (0 ≤ x8_1) = true := decide_eq_true c4
          clear c4
          by_cases c5 : x8_1 < (l0.length : Int)
          · rw [if_pos c5] at H
            have c5b0 : decide (x8_1 < (l0.length : Int)) = true := decide_eq_true c5
            clear c5
            by_cases c6 : a1 = (rd l0 x8_1)
            · rw [if_pos c6] at H
              have c6b0 : (a1 == (rd l0 x8_1)) = true := beq_iff_eq.mpr c6
              have c6b1 : (a1 != (rd l0 x8_1)) = false := bne_eq_false_iff_eq.mpr c6
              clear c6
              obtain rfl := Option.some.inj H
              have p259 : 0 ≤ (x8_1 : Int) := of_decide_eq_true (by first | (with_reducible assumption) | assumption)
              have q259 : x8_1 < (l0.length : Int) := of_decide_eq_true (by first | (with_reducible assumption) | assumption)
              obtain ⟨ad259, e259, hx259_0⟩ := Kd.at_int HR0.out x8_1 p259 q259
              cases e259
              replace p259 := eq_true p259
              replace q259 := eq_true q259
              go_wp2
              go_ret
              exact ⟨by first | rfl | (simp; done) | (simp [*]; done), by repeat (first | exact Drawn0.refl _ | apply Drawn0.step)⟩
            · rw [if_neg c6] at H
              have c6b0 : (a1 == (rd l0 x8_1)) = false := beq_eq_false_iff_ne.mpr c6
              have c6b1 : (a1 != (rd l0 x8_1)) = true := bne_iff_ne.mpr c6
              have H' := Aside0.mk H
              clear H
              have p259 : 0 ≤ (x8_1 : Int) := of_decide_eq_true (by first | (with_reducible assumption) | assumption)
              have q259 : x8_1 < (l0.length : Int) := of_decide_eq_true (by first | (with_reducible assumption) | assumption)
              obtain ⟨ad259, e259, hx259_0⟩ := Kd.at_int HR0.out x8_1 p259 q259
              cases e259
              replace p259 := eq_true p259
              replace q259 := eq_true q259
              go_wp2
              go_roundg k1
              case measure => have := HK1.out; omega
              case rel => exact ⟨(wrap64 (x8_1 + 1)), (by first | rfl | (simp; done) | (simp [*]; done)), H', ⟨by have := HK1.out; omega⟩, by repeat (first | exact Drawn0.refl _ | apply Drawn0.step)⟩
          · rw [if_neg c5] at H
            exact absurd H (by simp)
        · rw [if_neg c4] at H
          exact absurd H (by simp)
      · rw [if_neg c3] at H
        have c3b0 : decide (x8_1 < (l0.length : Int)) = false := decide_eq_false c3
        clear c3
        obtain rfl := Option.some.inj H
        go_wp2
        go_ret
        exact ⟨by first | rfl | (simp; done) | (simp [*]; done), by repeat (first | exact Drawn0.refl _ | apply Drawn0.step)⟩
def slices_Contains_int_int.f (k : Nat) (l0 : List Int) (a1 : Int) : Option (Bool) := (slices_Index_int_int.f k l0 a1).bind fun t260 => (some (decide (t260 ≥ 0)))
set_option maxHeartbeats 8000000 in
set_option maxRecDepth 100000 in
theorem slices_Contains_int_int.calls (k : Nat) (A0 : Option Addr) (c0 : Nat) (l0 : List Int) (a1 : Int) (r : Bool) (w : World) (hr0 : Kd.C (Kd.int .i64) w A0 l0.length l0) (hc0 : l0.length ≤ c0) (h : slices_Contains_int_int.f k l0 a1 = some r) :
    Calls Tryz.prog 45 #[.slice A0 l0.length c0, .int .i64 a1] w fun e w' => e = .returned (.bool r) ∧ Drawn0 w w' := by
  have HR0 := Aside0.mk hr0
  have HC0 := Aside0.mk hc0
  clear hr0 hc0
  have H : ((slices_Index_int_int.f k l0 a1).bind fun t260 => (some (decide (t260 ≥ 0)))) = some r := h
  clear h
  replace H := Option.bind_eq_some_iff.mp H
  obtain ⟨t260, A30, H⟩ := H
  replace H : (some (decide (t260 ≥ 0))) = some r := H
  have A3 := Aside0.mk A30
  clear A30
  obtain rfl := Option.some.inj H
  go_enter Tryz.func45, Tryz.ntmps45
  go_wp2_with (first | ((with_reducible refine gate_callee (f := 92) rfl ?_); refine goesL_ (some 7) rfl rfl Tryz.func92 (by kernel_rfl) rfl #[.slice A0 l0.length c0, .int .i64 a1] rfl (by (try simp only [List.map_toArray, List.map_cons, List.map_nil]); first | done | rfl | (simp only [List.length_drop, List.length_take]; rfl)) ?_; (with_reducible refine (slices_Index_int_int.calls k _ _ l0 a1 t260 _ ?side1 ?side2 A3.out).mono ?_); (case side1 => repeat (first | exact HR0.out | (with_reducible refine Kd.C_alloc ?_ _) | (with_reducible refine Kd.C_drewN ?_ _) | (with_reducible refine Kd.C_drew ?_))); (case side2 => exact HC0.out); rintro e w' ⟨rfl, ⟨nd, rfl⟩⟩; refine ⟨_, rfl, ?_⟩))
  go_ret
  exact ⟨by first | rfl | (simp; done) | (simp [*]; done), by repeat (first | exact Drawn0.refl _ | apply Drawn0.step)⟩
def slices_Equal_int_int.l0 : Nat → List Int → List Int → Int → Int → Option (Bool)
  | 0, _, _, _, _ => none
  | k + 1, x0, x1, x12, x13 => if x13 < x12 then (if 0 ≤ x13 then (if x13 < (x0.length : Int) then (if x13 < (x1.length : Int) then (if (rd x0 x13) = (rd x1 x13) then (slices_Equal_int_int.l0 k x0 x1 x12 (wrap64 (x13 + 1))) else (some false)) else (none)) else (none)) else (none)) else (some true)
def slices_Equal_int_int.f (k : Nat) (l0 : List Int) (l1 : List Int) : Option (Bool) := if (l0.length : Int) = (l1.length : Int) then (slices_Equal_int_int.l0 k l0 l1 (l0.length : Int) 0) else (some false)
set_option maxHeartbeats 8000000 in
set_option maxRecDepth 100000 in
theorem slices_Equal_int_int.calls (k : Nat) (A0 : Option Addr) (c0 : Nat) (l0 : List Int) (A1 : Option Addr) (c1 : Nat) (l1 : List Int) (r : Bool) (w : World) (hr0 : Kd.C (Kd.int .i64) w A0 l0.length l0) (hc0 : l0.length ≤ c0) (hr1 : Kd.C (Kd.int .i64) w A1 l1.length l1) (hc1 : l1.length ≤ c1) (h : slices_Equal_int_int.f k l0 l1 = some r) :
    Calls Tryz.prog 79 #[.slice A0 l0.length c0, .slice A1 l1.length c1] w fun e w' => e = .returned (.bool r) ∧ Drawn0 w w' := by
  have HR0 := Aside0.mk hr0
  have HC0 := Aside0.mk hc0
  clear hr0 hc0
  have HR1 := Aside0.mk hr1
  have HC1 := Aside0.mk hc1
  clear hr1 hc1
  have H : (if (l0.length : Int) = (l1.length : Int) then (slices_Equal_int_int.l0 k l0 l1 (l0.length : Int) 0) else (some false)) = some r := h
  clear h
  by_cases c3 : (l0.length : Int) = (l1.length : Int)
  · rw [if_pos c3] at H
    have c3b0 : ((l0.length : Int) == (l1.length : Int)) = true := beq_iff_eq.mpr c3
    have c3b1 : ((l0.length : Int) != (l1.length : Int)) = false := bne_eq_false_iff_eq.mpr c3
    have c3b2 : (l0.length == l1.length) = true := by first | simpa using c3 | (simp at c3 ⊢; omega)
    clear c3
    have H' := Aside0.mk H
    clear H
    go_enter Tryz.func79, Tryz.ntmps79
    go_wp2
    repeat (go_quiet (fail); try go_wp2)
    go_loopg [13] k (fun kq v13 w' => ∃ (x13_1 : Int), v13 = .int .i64 x13_1 ∧ Aside0 (slices_Equal_int_int.l0 kq l0 l1 (l0.length : Int) x13_1 = some r) ∧ Aside0 (kq ≤ k) ∧ Drawn0 w w')
    case atStart => exact ⟨(0), (by first | rfl | (simp; done) | (simp [*]; done)), H', ⟨Nat.le_refl _⟩, by repeat (first | exact Drawn0.refl _ | apply Drawn0.step)⟩
    case round =>
      clear H'
      try clear c1
      try clear p2
      try clear c3
      try clear c3b0
      try clear c3b1
      try clear c3b2
      obtain ⟨x13_1, rfl, HA, HK1, ⟨m1, rfl⟩⟩ := hrel
      cases gk with
      | zero => exact absurd HA.out (by simp [slices_Equal_int_int.l0])
      | succ k1 =>
        have H := HA.out
        clear HA
        simp only [slices_Equal_int_int.l0] at H
        by_cases c4 : x13_1 < (l0.length : Int)
        · rw [if_pos c4] at H
          have c4b0 : decide (x13_1 < (l0.length : Int)) = true := decide_eq_true c4
          clear c4
          by_cases c5 : 0 ≤ x13_1
          · rw [if_pos c5] at H
            have c5b0 : decide (0 ≤ x13_1) = true := decide_eq_true c5
            clear c5
            by_cases c6 : x13_1 < (l0.length : Int)
            · rw [if_pos c6] at H
              have c6b0 : decide (x13_1 < (l0.length : Int)) = true := decide_eq_true c6
              clear c6
              by_cases c7 : x13_1 < (l1.length : Int)
              · rw [if_pos c7] at H
                have c7b0 : decide (x13_1 < (l1.length : Int)) = true := decide_eq_true c7
                clear c7
                by_cases c8 : (rd l0 x13_1) = (rd l1 x13_1)
                · rw [if_pos c8] at H
                  have c8b0 : ((rd l0 x13_1) == (rd l1 x13_1)) = true := beq_iff_eq.mpr c8
                  have c8b1 : ((rd l0 x13_1) != (rd l1 x13_1)) = false := bne_eq_false_iff_eq.mpr c8
                  clear c8
                  have H' := Aside0.mk H
                  clear H
                  have p261 : 0 ≤ (x13_1 : Int) := of_decide_eq_true (by first | (with_reducible assumption) | assumption)
                  have q261 : x13_1 < (l0.length : Int) := of_decide_eq_true (by first | (with_reducible assumption) | assumption)
                  obtain ⟨ad261, e261, hx261_0⟩ := Kd.at_int HR0.out x13_1 p261 q261
                  cases e261
                  replace p261 := eq_true p261
                  replace q261 := eq_true q261
                  have p262 : 0 ≤ (x13_1 : Int) := of_decide_eq_true (by first | (with_reducible assumption) | assumption)
                  have q262 : x13_1 < (l1.length : Int) := of_decide_eq_true (by first | (with_reducible assumption) | assumption)
                  obtain ⟨ad262, e262, hx262_0⟩ := Kd.at_int HR1.out x13_1 p262 q262
                  cases e262
                  replace p262 := eq_true p262
                  replace q262 := eq_true q262
                  go_wp2
                  repeat (go_quiet (fail); try go_wp2)
                  go_roundg k1
                  case measure => have := HK1.out; omega
                  case rel => exact ⟨(wrap64 (x13_1 + 1)), (by first | rfl | (simp; done) | (simp [*]; done)), H', ⟨by have := HK1.out; omega⟩, by repeat (first | exact Drawn0.refl _ | apply Drawn0.step)⟩
                · rw [if_neg c8] at H
                  have c8b0 : ((rd l0 x13_1) == (rd l1 x13_1)) = false := beq_eq_false_iff_ne.mpr c8
                  have c8b1 : ((rd l0 x13_1) != (rd l1 x13_1)) = true := bne_iff_ne.mpr c8
                  obtain rfl := Option.some.inj H
                  have p261 : 0 ≤ (x13_1 : Int) := of_decide_eq_true (by first | (with_reducible assumption) | assumption)
                  have q261 : x13_1 < (l0.length : Int) := of_decide_eq_true (by first | (with_reducible assumption) | assumption)
                  obtain ⟨ad261, e261, hx261_0⟩ := Kd.at_int HR0.out x13_1 p261 q261
                  cases e261
                  replace p261 := eq_true p261
                  replace q261 := eq_true q261
                  have p262 : 0 ≤ (x13_1 : Int) := of_decide_eq_true (by first | (with_reducible assumption) | assumption)
                  have q262 : x13_1 < (l1.length : Int) := of_decide_eq_true (by first | (with_reducible assumption) | assumption)
                  obtain ⟨ad262, e262, hx262_0⟩ := Kd.at_int HR1.out x13_1 p262 q262
                  cases e262
                  replace p262 := eq_true p262
                  replace q262 := eq_true q262
                  go_wp2
                  repeat (go_quiet (fail); try go_wp2)
                  go_ret
                  exact ⟨by first | rfl | (simp; done) | (simp [*]; done), by repeat (first | exact Drawn0.refl _ | apply Drawn0.step)⟩
              · rw [if_neg c7] at H
                exact absurd H (by simp)
            · rw [if_neg c6] at H
              exact absurd H (by simp)
          · rw [if_neg c5] at H
            exact absurd H (by simp)
        · rw [if_neg c4] at H
          have c4b0 : decide (x13_1 < (l0.length : Int)) = false := decide_eq_false c4
          clear c4
          obtain rfl := Option.some.inj H
          go_wp2
          repeat (go_quiet (fail); try go_wp2)
          go_ret
          exact ⟨by first | rfl | (simp; done) | (simp [*]; done), by repeat (first | exact Drawn0.refl _ | apply Drawn0.step)⟩
  · rw [if_neg c3] at H
    have c3b0 : ((l0.length : Int) == (l1.length : Int)) = false := beq_eq_false_iff_ne.mpr c3
    have c3b1 : ((l0.length : Int) != (l1.length : Int)) = true := bne_iff_ne.mpr c3
    have c3b2 : (l0.length == l1.length) = false := by first | simpa using c3 | (simp at c3 ⊢; omega)
    obtain rfl := Option.some.inj H
    go_enter Tryz.func79, Tryz.ntmps79
    go_wp2
    repeat (go_quiet (fail); try go_wp2)
    go_ret
    exact ⟨by first | rfl | (simp; done) | (simp [*]; done), by repeat (first | exact Drawn0.refl _ | apply Drawn0.step)⟩
def api_Need.l0 : Nat → List (S83) → List (S83) → Int → Int → Option (Bool)
  | 0, _, _, _, _ => none
  | k + 1, x0, x1, x12, x13 => if x13 < x12 then (if 0 ≤ x13 then (if x13 < (x0.length : Int) then (if x13 < (x1.length : Int) then (if (!(((rd_T83 x0 x13).f0) == ((rd_T83 x1 x13).f0)) || (!(((rd_T83 x0 x13).f1) == ((rd_T83 x1 x13).f1)))) = true then (some false) else (api_Need.l0 k x0 x1 x12 (wrap64 (x13 + 1)))) else (none)) else (none)) else (none)) else (some true)
def api_Need.f (k : Nat) (l0 : List (S83)) (l1 : List (S83)) : Option (Bool) := if (l0.length : Int) = (l1.length : Int) then (api_Need.l0 k l0 l1 (l0.length : Int) 0) else (some false)
set_option maxHeartbeats 8000000 in
set_option maxRecDepth 100000 in
theorem api_Need.calls (k : Nat) (A0 : Option Addr) (c0 : Nat) (l0 : List (S83)) (A1 : Option Addr) (c1 : Nat) (l1 : List (S83)) (r : Bool) (w : World) (hr0 : Kd.C k83 w A0 l0.length l0) (hc0 : l0.length ≤ c0) (hr1 : Kd.C k83 w A1 l1.length l1) (hc1 : l1.length ≤ c1) (h : api_Need.f k l0 l1 = some r) :
    Calls Tryz.prog 85 #[.slice A0 l0.length c0, .slice A1 l1.length c1] w fun e w' => e = .returned (.bool r) ∧ Drawn0 w w' := by
  have hu83 := Tryz.underlying83
  have HR0 := Aside0.mk hr0
  have HC0 := Aside0.mk hc0
  clear hr0 hc0
  have HR1 := Aside0.mk hr1
  have HC1 := Aside0.mk hc1
  clear hr1 hc1
  have H : (if (l0.length : Int) = (l1.length : Int) then (api_Need.l0 k l0 l1 (l0.length : Int) 0) else (some false)) = some r := h
  clear h
  by_cases c3 : (l0.length : Int) = (l1.length : Int)
  · rw [if_pos c3] at H
    have c3b0 : ((l0.length : Int) == (l1.length : Int)) = true := beq_iff_eq.mpr c3
    have c3b1 : ((l0.length : Int) != (l1.length : Int)) = false := bne_eq_false_iff_eq.mpr c3
    have c3b2 : (l0.length == l1.length) = true := by first | simpa using c3 | (simp at c3 ⊢; omega)
    clear c3
    have H' := Aside0.mk H
    clear H
    go_enter Tryz.func85, Tryz.ntmps85
    go_wp2
    repeat (go_quiet (fail); try go_wp2)
    go_loopg [13] k (fun kq v13 w' => ∃ (x13_1 : Int), v13 = .int .i64 x13_1 ∧ Aside0 (api_Need.l0 kq l0 l1 (l0.length : Int) x13_1 = some r) ∧ Aside0 (kq ≤ k) ∧ Drawn0 w w')
    case atStart => exact ⟨(0), (by first | rfl | (simp; done) | (simp [*]; done)), H', ⟨Nat.le_refl _⟩, by repeat (first | exact Drawn0.refl _ | apply Drawn0.step)⟩
    case round =>
      clear H'
      try clear c1
      try clear p2
      try clear c3
      try clear c3b0
      try clear c3b1
      try clear c3b2
      obtain ⟨x13_1, rfl, HA, HK1, ⟨m1, rfl⟩⟩ := hrel
      cases gk with
      | zero => exact absurd HA.out (by simp [api_Need.l0])
      | succ k1 =>
        have H := HA.out
        clear HA
        simp only [api_Need.l0] at H
        by_cases c4 : x13_1 < (l0.length : Int)
        · rw [if_pos c4] at H
          have c4b0 : decide (x13_1 < (l0.length : Int)) = true := decide_eq_true c4
          clear c4
          by_cases c5 : 0 ≤ x13_1
          · rw [if_pos c5] at H
            have c5b0 : decide (0 ≤ x13_1) = true := decide_eq_true c5
            clear c5
            by_cases c6 : x13_1 < (l0.length : Int)
            · rw [if_pos c6] at H
              have c6b0 : decide (x13_1 < (l0.length : Int)) = true := decide_eq_true c6
              clear c6
              by_cases c7 : x13_1 < (l1.length : Int)
              · rw [if_pos c7] at H
                have c7b0 : decide (x13_1 < (l1.length : Int)) = true := decide_eq_true c7
                clear c7
                by_cases c8 : (!(((rd_T83 l0 x13_1).f0) == ((rd_T83 l1 x13_1).f0)) || (!(((rd_T83 l0 x13_1).f1) == ((rd_T83 l1 x13_1).f1)))) = true
                · rw [if_pos c8] at H
                  have c8b0 : (!(((rd_T83 l0 x13_1).f0) == ((rd_T83 l1 x13_1).f0)) || (!(((rd_T83 l0 x13_1).f1) == ((rd_T83 l1 x13_1).f1)))) = true := c8
                  clear c8
                  obtain rfl := Option.some.inj H
                  have p263 : 0 ≤ (x13_1 : Int) := of_decide_eq_true (by first | (with_reducible assumption) | assumption)
                  have q263 : x13_1 < (l0.length : Int) := of_decide_eq_true (by first | (with_reducible assumption) | assumption)
                  obtain ⟨ad263, e263, hx263_0, hx263_1⟩ := at_T83 HR0.out x13_1 p263 q263
                  cases e263
                  replace p263 := eq_true p263
                  replace q263 := eq_true q263
                  have p264 : 0 ≤ (x13_1 : Int) := of_decide_eq_true (by first | (with_reducible assumption) | assumption)
                  have q264 : x13_1 < (l1.length : Int) := of_decide_eq_true (by first | (with_reducible assumption) | assumption)
                  obtain ⟨ad264, e264, hx264_0, hx264_1⟩ := at_T83 HR1.out x13_1 p264 q264
                  cases e264
                  replace p264 := eq_true p264
                  replace q264 := eq_true q264
                  go_wp2
                  repeat (go_quiet (fail); try go_wp2)
                  go_ret
                  exact ⟨by first | rfl | (simp; done) | (simp [*]; done), by repeat (first | exact Drawn0.refl _ | apply Drawn0.step)⟩
                · rw [if_neg c8] at H
                  have c8b0 : (!(((rd_T83 l0 x13_1).f0) == ((rd_T83 l1 x13_1).f0)) || (!(((rd_T83 l0 x13_1).f1) == ((rd_T83 l1 x13_1).f1)))) = false := by simpa using c8
                  clear c8
                  have H' := Aside0.mk H
                  clear H
                  have p263 : 0 ≤ (x13_1 : Int) := of_decide_eq_true (by first | (with_reducible assumption) | assumption)
                  have q263 : x13_1 < (l0.length : Int) := of_decide_eq_true (by first | (with_reducible assumption) | assumption)
                  obtain ⟨ad263, e263, hx263_0, hx263_1⟩ := at_T83 HR0.out x13_1 p263 q263
                  cases e263
                  replace p263 := eq_true p263
                  replace q263 := eq_true q263
                  have p264 : 0 ≤ (x13_1 : Int) := of_decide_eq_true (by first | (with_reducible assumption) | assumption)
                  have q264 : x13_1 < (l1.length : Int) := of_decide_eq_true (by first | (with_reducible assumption) | assumption)
                  obtain ⟨ad264, e264, hx264_0, hx264_1⟩ := at_T83 HR1.out x13_1 p264 q264
                  cases e264
                  replace p264 := eq_true p264
                  replace q264 := eq_true q264
                  go_wp2
                  repeat (go_quiet (fail); try go_wp2)
                  go_roundg k1
                  case measure => have := HK1.out; omega
                  case rel => exact ⟨(wrap64 (x13_1 + 1)), (by first | rfl | (simp; done) | (simp [*]; done)), H', ⟨by have := HK1.out; omega⟩, by repeat (first | exact Drawn0.refl _ | apply Drawn0.step)⟩
              · rw [if_neg c7] at H
                exact absurd H (by simp)
            · rw [if_neg c6] at H
              exact absurd H (by simp)
          · rw [if_neg c5] at H
            exact absurd H (by simp)
        · rw [if_neg c4] at H
          have c4b0 : decide (x13_1 < (l0.length : Int)) = false := decide_eq_false c4
          clear c4
          obtain rfl := Option.some.inj H
          go_wp2
          repeat (go_quiet (fail); try go_wp2)
          go_ret
          exact ⟨by first | rfl | (simp; done) | (simp [*]; done), by repeat (first | exact Drawn0.refl _ | apply Drawn0.step)⟩
  · rw [if_neg c3] at H
    have c3b0 : ((l0.length : Int) == (l1.length : Int)) = false := beq_eq_false_iff_ne.mpr c3
    have c3b1 : ((l0.length : Int) != (l1.length : Int)) = true := bne_iff_ne.mpr c3
    have c3b2 : (l0.length == l1.length) = false := by first | simpa using c3 | (simp at c3 ⊢; omega)
    obtain rfl := Option.some.inj H
    go_enter Tryz.func85, Tryz.ntmps85
    go_wp2
    repeat (go_quiet (fail); try go_wp2)
    go_ret
    exact ⟨by first | rfl | (simp; done) | (simp [*]; done), by repeat (first | exact Drawn0.refl _ | apply Drawn0.step)⟩
end Go.Proofs.YtbmcigakiibncaaGreatDoor.Q
namespace Go.Proofs.YtbmcigakiibncaaGreatDoor.H
open Go.RowKit Go.Proofs.YtbmcigakiibncaaGreatDoorW.PrintWords Go.Proofs.YtbmcigakiibncaaGreatDoorW.PrintLast Go.Proofs.YtbmcigakiibncaaGreatDoorW.PrintMore
theorem rd_mem {xs : List Int} {k : Nat} (h : k < xs.length) : rd xs (k : Int) ∈ xs := by
  have : rd xs (k : Int) = xs[k] := by simp [rd, List.getD_eq_getElem?_getD, List.getElem?_eq_getElem h]
  rw [this]; exact List.getElem_mem h
theorem blk_at2 (w : World) (o o' : Obj) : ((w.alloc o).alloc o').heap[w.heap.size + 1]? = some o' := by
  have h := blk_new (w.alloc o) o'
  rwa [show (w.alloc o).heap.size = w.heap.size + 1 from by simp] at h
theorem run_mkfun (fn : Fn) (first cap : Array Value) (w : World) : (Instr.makeFunc fn first cap).run Tryz.prog w = .ok (.func fn first cap) w := rfl
end Go.Proofs.YtbmcigakiibncaaGreatDoor.H
namespace Go.Proofs.YtbmcigakiibncaaGreatDoor.H
open Go.RowKit Go.Proofs.YtbmcigakiibncaaGreatDoorW.PrintWords Go.Proofs.YtbmcigakiibncaaGreatDoorW.PrintLast Go.Proofs.YtbmcigakiibncaaGreatDoorW.PrintMore
open Q
theorem wrap_succ {i : Int} (h0 : 0 ≤ i) (h1 : i < 9223372036854775807) : wrap64 (i + 1) = i + 1 := by
  unfold wrap64; omega
theorem all_drop {α : Type} {p : α → Bool} {xs : List α} {j : Nat} (h : j < xs.length) : (xs.drop j).all p = (p xs[j] && (xs.drop (j + 1)).all p) := by
  rw [List.drop_eq_getElem_cons h, List.all_cons]
theorem rd_at {xs : List Int} {j : Nat} (h : j < xs.length) : rd xs (j : Int) = xs[j] := by
  simp [rd, List.getD_eq_getElem?_getD, List.getElem?_eq_getElem h]
theorem ev_next {α : Type} {g f : Nat → Option α} {r : α} (k : Ev f r) (h : ∀ k, g (k + 1) = f k) : Ev g r := Ev.step h k
theorem ev_end {α : Type} {g : Nat → Option α} {r : α} (h : ∀ k, g (k + 1) = some r) : Ev g r := Ev.step (f := fun _ => some r) h (Ev.now r)
end Go.Proofs.YtbmcigakiibncaaGreatDoor.H
namespace Go.Proofs.YtbmcigakiibncaaGreatDoor.H
open Go.RowKit Go.Proofs.YtbmcigakiibncaaGreatDoorW.PrintWords Go.Proofs.YtbmcigakiibncaaGreatDoorW.PrintLast Go.Proofs.YtbmcigakiibncaaGreatDoorW.PrintMore
set_option linter.unusedVariables false
theorem grown_setCell (W : World) (p : Addr) (u : Value) : W.grownBy (W.setCell p u) (some p.block) :=
  ⟨rfl, rfl, rfl, by simp [World.setCell], fun i _ hne => Below.heap_setCell W p u i (fun e => hne (by rw [e]))⟩
end Go.Proofs.YtbmcigakiibncaaGreatDoor.H
namespace Go.Proofs.YtbmcigakiibncaaGreatDoor.H
open Go.RowKit Go.Proofs.YtbmcigakiibncaaGreatDoorW.PrintWords Go.Proofs.YtbmcigakiibncaaGreatDoorW.PrintLast Go.Proofs.YtbmcigakiibncaaGreatDoorW.PrintMore
set_option linter.unusedVariables false
def ranksB (l : List Int) : Bool := (l.all fun r => decide (0 ≤ r) && decide (r ≤ 4)) && decide ((l.length : Int) ≤ 24)
theorem rk_l0 (l : List Int) (hm : l.length ≤ 9223372036854775807) (d : Nat) : ∀ j : Nat, l.length - j = d → j ≤ l.length →
    Ev (fun k => Q.tree_Ranks.l0 k l l (l.length : Int) (j : Int)) (((l.drop j).all fun r => decide (0 ≤ r) && decide (r ≤ 4)) && decide ((l.length : Int) ≤ 24)) := by
  induction d with
  | zero =>
    intro j hd hj
    refine ev_end fun k => ?_
    simp only [Q.tree_Ranks.l0]
    rw [if_neg (by omega), List.drop_eq_nil_of_le (by omega)]
    rfl
  | succ d ih =>
    intro j hd hj
    have hlt : j < l.length := by omega
    rw [all_drop hlt]
    have e : rd l (j : Int) = l[j] := rd_at hlt
    by_cases h1 : l[j] < 0
    · rw [decide_eq_false (by omega : ¬ 0 ≤ l[j])]
      refine ev_end fun k => ?_
      simp only [Q.tree_Ranks.l0]
      rw [if_pos (by omega), if_pos (by omega), if_pos (by omega), e, if_pos h1]; simp
    · by_cases h2 : l[j] > 4
      · rw [decide_eq_false (by omega : ¬ l[j] ≤ 4)]
        refine ev_end fun k => ?_
        simp only [Q.tree_Ranks.l0]
        rw [if_pos (by omega), if_pos (by omega), if_pos (by omega), e, if_neg h1, if_pos h2]; simp
      · rw [decide_eq_true (by omega : 0 ≤ l[j]), decide_eq_true (by omega : l[j] ≤ 4), Bool.true_and, Bool.true_and]
        refine ev_next (ih (j + 1) (by omega) (by omega)) fun k => ?_
        simp only [Q.tree_Ranks.l0]
        rw [if_pos (by omega), if_pos (by omega), if_pos (by omega), e, if_neg h1, if_neg h2, wrap_succ (by omega) (by omega)]
        rfl
theorem ranks_ev (l : List Int) (hm : l.length ≤ 9223372036854775807) : Ev (fun k => Q.tree_Ranks.f k l) (ranksB l) := rk_l0 l hm _ 0 rfl (Nat.zero_le _)
theorem ranks_calls (A : Option Addr) (c : Nat) (l : List Int) (w : World) (hr : Kd.C (Kd.int .i64) w A l.length l) (hc : l.length ≤ c) : Calls Tryz.prog 72 #[.slice A l.length c] w fun e w' => e = .returned (.bool (ranksB l)) ∧ Below w.heap.size w w' := by
  obtain ⟨k, hk⟩ := (ranks_ev l hr.2.1).rounds
  exact (Q.tree_Ranks.calls k A c l _ w hr hc hk).mono fun e w' h => ⟨h.1, h.2.below⟩
end Go.Proofs.YtbmcigakiibncaaGreatDoor.H
namespace Go.Proofs.YtbmcigakiibncaaGreatDoor.H
open Go.RowKit Go.Proofs.YtbmcigakiibncaaGreatDoorW.PrintWords Go.Proofs.YtbmcigakiibncaaGreatDoorW.PrintLast Go.Proofs.YtbmcigakiibncaaGreatDoorW.PrintMore
set_option linter.unusedVariables false
abbrev kA1 : Kd (List Q.S83) := Kd.slice 83 Q.k83
abbrev kA2 : Kd (List (List Q.S83)) := Kd.slice 69 kA1
abbrev kA3 : Kd (List (List (List Q.S83))) := Kd.slice 66 kA2
end Go.Proofs.YtbmcigakiibncaaGreatDoor.H
namespace Go.Proofs.YtbmcigakiibncaaGreatDoor.H
open Go.RowKit Go.Proofs.YtbmcigakiibncaaGreatDoorW.PrintWords Go.Proofs.YtbmcigakiibncaaGreatDoorW.PrintLast Go.Proofs.YtbmcigakiibncaaGreatDoorW.PrintMore
open Go.Proofs.YtbmcigakiibncaaGreatDoor.Q (S28 k28 rd_T28 z28)
set_option linter.unusedVariables false
mutual
def nodes : S28 → Nat
  | ⟨_, l⟩ => nodesL l + 1
def nodesL : List S28 → Nat
  | [] => 0
  | t :: r => nodes t + nodesL r
end
mutual
def depth : S28 → Nat
  | ⟨_, l⟩ => depthL l + 1
def depthL : List S28 → Nat
  | [] => 0
  | t :: r => max (depth t) (depthL r)
end
mutual
def overB (rk : List Int) : S28 → Bool
  | ⟨s, l⟩ => (decide (s = -1) && decide (l.length = 0)) || (decide (0 ≤ s) && decide (s < (rk.length : Int)) && decide ((l.length : Int) = rd rk s) && overL rk l)
def overL (rk : List Int) : List S28 → Bool
  | [] => true
  | t :: r => overB rk t && overL rk r
end
theorem nodes_pos (t : S28) : 1 ≤ nodes t := by
  cases t
  rw [nodes]
  omega
theorem nodes_mem {l : List S28} {t : S28} (h : t ∈ l) : nodes t ≤ nodesL l := by
  induction l with
  | nil => cases h
  | cons a r ih =>
    rw [nodesL]
    rcases List.mem_cons.1 h with rfl | h
    · omega
    · have := ih h; omega
theorem depth_le_aux (n : Nat) : ∀ t : S28, nodes t ≤ n → depth t ≤ nodes t := by
  induction n with
  | zero => intro t h; have := nodes_pos t; omega
  | succ n ih =>
    intro t h
    obtain ⟨s, l⟩ := t
    rw [nodes] at h ⊢
    rw [depth]
    have : ∀ l : List S28, nodesL l ≤ n → depthL l ≤ nodesL l := by
      intro l
      induction l with
      | nil => intro _; simp [depthL]
      | cons a r ihr =>
        intro h
        rw [nodesL] at h ⊢
        rw [depthL]
        have h1 := ih a (by omega)
        have h2 := ihr (by omega)
        omega
    have := this l (by omega)
    omega
theorem depth_le (t : S28) : depth t ≤ nodes t := depth_le_aux _ t (Nat.le_refl _)
theorem rdT_at {l : List S28} {j : Nat} (h : j < l.length) : rd_T28 l (j : Int) = l[j] := by simp [rd_T28, List.getD_eq_getElem?_getD, List.getElem?_eq_getElem h]
theorem dropT {l : List S28} {j : Nat} (h : j < l.length) : l.drop j = l[j] :: l.drop (j + 1) := (List.drop_eq_getElem_cons h)
theorem wr_id {x : Int} (h1 : -9223372036854775808 ≤ x) (h2 : x ≤ 9223372036854775807) : wrap64 x = x := by unfold wrap64; omega
theorem lens_le {l : List S28} : l.length ≤ nodesL l := by
  induction l with
  | nil => simp
  | cons a r ih => rw [nodesL, List.length_cons]; have := nodes_pos a; omega
theorem tover_ev (rk : List Int) (N : Nat) : ∀ t : S28, nodes t ≤ N → N ≤ 20000 → Ev (fun k => Q.tree_over.f k rk t.f0 t.f1) (overB rk t) := by
  induction N with
  | zero => intro t h; have := nodes_pos t; omega
  | succ N ih =>
    intro t h hN
    obtain ⟨s, l⟩ := t
    rw [nodes] at h
    have hll := lens_le (l := l)
    have loop : ∀ d j : Nat, l.length - j = d → j ≤ l.length → Ev (fun k => Q.tree_over.l0 k rk l (l.length : Int) (j : Int)) (overL rk (l.drop j)) := by
      intro d
      induction d with
      | zero =>
        intro j hd hj
        refine ev_end fun k => ?_
        simp only [Q.tree_over.l0]
        rw [if_neg (by omega), List.drop_eq_nil_of_le (by omega), overL]
      | succ d ihd =>
        intro j hd hj
        have hlt : j < l.length := by omega
        rw [dropT hlt, overL]
        have e1 := ih l[j] (by have := nodes_mem (List.getElem_mem hlt); omega) (by omega)
        have e2 := ihd (j + 1) (by omega) (by omega)
        rw [show ((j + 1 : Nat) : Int) = wrap64 ((j : Int) + 1) from (wrap_succ (i := (j : Int)) (by omega) (by omega)).symm] at e2
        refine ev_next (Ev.bind (f := fun k t => if t = true then Q.tree_over.l0 k rk l (l.length : Int) (wrap64 ((j : Int) + 1)) else some false) e1 ?_) fun k => ?_
        · cases overB rk l[j] with
          | true => simpa using e2
          | false => simpa using Ev.now false
        · simp only [Q.tree_over.l0]
          rw [if_pos (by omega), if_pos (by omega), if_pos (by omega), rdT_at hlt]
    have hgo : Ev (fun k => Q.tree_over.j0 k rk false s l) (overL rk l) := by
      have e := loop l.length 0 (by omega) (by omega)
      rw [List.drop_zero] at e
      exact ev_next e fun k => by simp [Q.tree_over.j0]
    have hno : Ev (fun k => Q.tree_over.j0 k rk true s l) false := ev_end fun k => by simp [Q.tree_over.j0]
    rw [overB]
    by_cases h3 : s = -1
    · subst h3
      refine ev_end fun k => ?_
      simp only [Q.tree_over.f]
      rw [if_pos trivial]
      by_cases h4 : l.length = 0
      · simp [h4]
      · simp [h4]
    by_cases h1 : s < 0
    · rw [decide_eq_false h3, decide_eq_false (by omega : ¬ 0 ≤ s)]
      refine ev_next hno fun k => ?_
      simp only [Q.tree_over.f]
      rw [if_neg h3, if_pos h1]
    by_cases h2 : s ≥ (rk.length : Int)
    · rw [decide_eq_false (by omega : ¬ s < (rk.length : Int)), decide_eq_false h3]
      simp only [Bool.false_and, Bool.and_false, Bool.or_false]
      refine ev_next hno fun k => ?_
      simp only [Q.tree_over.f]
      rw [if_neg h3, if_neg h1, if_pos h2]
    · rw [decide_eq_false h3, decide_eq_true (by omega : 0 ≤ s), decide_eq_true (by omega : s < (rk.length : Int))]
      by_cases h5 : (l.length : Int) = rd rk s
      · rw [decide_eq_true h5]
        simp only [Bool.false_and, Bool.false_or, Bool.true_and]
        refine ev_next hgo fun k => ?_
        simp only [Q.tree_over.f]
        rw [if_neg h3, if_neg h1, if_neg h2, if_pos (by omega), if_pos (by omega), h5, bne_self_eq_false]
      · rw [decide_eq_false h5]
        simp only [Bool.false_and, Bool.false_or, Bool.and_false]
        refine ev_next hno fun k => ?_
        simp only [Q.tree_over.f]
        rw [if_neg h3, if_neg h1, if_neg h2, if_pos (by omega), if_pos (by omega), show ((l.length : Int) != rd rk s) = true from bne_iff_ne.2 h5]
def treeOk (rk : List Int) (t : S28) : Bool := decide (nodes t ≤ 20000) && decide (depth t ≤ 200) && overB rk t
end Go.Proofs.YtbmcigakiibncaaGreatDoor.H
namespace Go.Proofs.YtbmcigakiibncaaGreatDoor.H
open Go.RowKit Go.Proofs.YtbmcigakiibncaaGreatDoorW.PrintWords Go.Proofs.YtbmcigakiibncaaGreatDoorW.PrintLast Go.Proofs.YtbmcigakiibncaaGreatDoorW.PrintMore
open Go.Proofs.YtbmcigakiibncaaGreatDoor.Q (S28 k28 rd_T28 z28 at_T28)
attribute [local go_sem] max2_int min2_int max_two min_two max_three min_three max_four min_four
set_option linter.unusedVariables false
theorem gtrans {W W1 W2 : World} {row : Option Nat} (h : W.grownBy W1 row) (h2 : W1.grownBy W2 row) : W.grownBy W2 row := ⟨h2.os.trans h.os, h2.tape.trans h.tape, h2.output.trans h.output, Nat.le_trans h.size h2.size, fun i hi hne => (h2.block i (Nat.lt_of_lt_of_le hi h.size) hne).trans (h.block i hi hne)⟩
theorem depthL_snoc (a : List S28) (x : S28) : depthL (a ++ [x]) = max (depthL a) (depth x) := by
  induction a with
  | nil => simp [depthL]
  | cons y r ih => rw [List.cons_append, depthL, depthL, ih]; omega
theorem nodesL_snoc (a : List S28) (x : S28) : nodesL (a ++ [x]) = nodesL a + nodes x := by
  induction a with
  | nil => simp [nodesL]
  | cons y r ih => rw [List.cons_append, nodesL, nodesL, ih]; omega
theorem takeT {l : List S28} {j : Nat} (h : j < l.length) : l.take (j + 1) = l.take j ++ [l[j]] := by rw [List.take_add_one, List.getElem?_eq_getElem h]; rfl
theorem nodesL_take (l : List S28) (j : Nat) : nodesL (l.take j) ≤ nodesL l := by
  induction l generalizing j with
  | nil => simp
  | cons a r ih =>
    cases j with
    | zero => simp [nodesL]
    | succ j => rw [List.take_succ_cons, nodesL, nodesL]; have := ih j; omega
theorem depthL_le (l : List S28) : depthL l ≤ nodesL l := by
  induction l with
  | nil => simp [depthL]
  | cons a r ih => rw [depthL, nodesL]; have := depth_le a; omega
end Go.Proofs.YtbmcigakiibncaaGreatDoor.H
namespace Go.Proofs.YtbmcigakiibncaaGreatDoor.H
open Go.RowKit Go.Proofs.YtbmcigakiibncaaGreatDoorW.PrintWords Go.Proofs.YtbmcigakiibncaaGreatDoorW.PrintLast Go.Proofs.YtbmcigakiibncaaGreatDoorW.PrintMore
open Go.Proofs.YtbmcigakiibncaaGreatDoor.Q (S28 k28 rd_T28 z28 at_T28)
set_option linter.unusedVariables false
theorem below_of_grown {w W W1 : World} {p : Nat} (h : Below w.heap.size w W) (hp : w.heap.size ≤ p) (hg : W.grownBy W1 (some p)) : Below w.heap.size w W1 := pw_below_grown h (some p) h.size hg (fun k hk => by cases hk; exact hp)
end Go.Proofs.YtbmcigakiibncaaGreatDoor.H
namespace Go.Proofs.YtbmcigakiibncaaGreatDoor.H
open Go.RowKit Go.Proofs.YtbmcigakiibncaaGreatDoorW.PrintWords Go.Proofs.YtbmcigakiibncaaGreatDoorW.PrintLast Go.Proofs.YtbmcigakiibncaaGreatDoorW.PrintMore
set_option linter.unusedVariables false
def Tab (w : World) : Prop := w.cell? ⟨1, 0, none⟩ = some (.int .u8 0) ∧ w.cell? ⟨1, 1, none⟩ = some (.int .u8 1) ∧ w.cell? ⟨1, 3, none⟩ = some (.int .u8 2) ∧ w.cell? ⟨1, 7, none⟩ = some (.int .u8 3) ∧ w.cell? ⟨1, 15, none⟩ = some (.int .u8 4) ∧ w.cell? ⟨1, 31, none⟩ = some (.int .u8 5)
theorem Tab.below {w w1 : World} (h : Tab w) (hb : Below w.heap.size w w1) : Tab w1 := by
  obtain ⟨h0, h1, h2, h3, h4, h5⟩ := h
  exact ⟨pw_cell_below hb h0, pw_cell_below hb h1, pw_cell_below hb h2, pw_cell_below hb h3, pw_cell_below hb h4, pw_cell_below hb h5⟩
def low (x : Nat) : Nat := if x % 2 = 1 then 0 else if x % 4 = 2 then 1 else if x % 8 = 4 then 2 else if x % 16 = 8 then 3 else if x % 32 = 16 then 4 else 5
def lowAt (x : Nat) : Nat := if x % 2 = 1 then 0 else if x % 4 = 2 then 1 else if x % 8 = 4 then 3 else if x % 16 = 8 then 7 else if x % 32 = 16 then 15 else 31
def tzAt (x : Int) : Int := IntKind.u64.wrap (bits BinOp.and IntKind.u64 x (IntKind.u64.wrap (-x)) * 285870213051353865) / 288230376151711744
theorem tzAt_all : ((List.range 64).all fun x => x == 0 || tzAt (x : Int) == (lowAt x : Int)) = true := by kernel_rfl
theorem tzAt_eq {x : Nat} (h0 : x ≠ 0) (h1 : x < 64) : tzAt (x : Int) = (lowAt x : Int) := by
  have h := List.all_eq_true.1 tzAt_all x (List.mem_range.2 h1)
  simpa [h0] using h
theorem Tab.at {w : World} (h : Tab w) (x : Nat) : w.cell? ⟨1, lowAt x, none⟩ = some (.int .u8 (low x : Int)) := by
  obtain ⟨h0, h1, h2, h3, h4, h5⟩ := h
  unfold lowAt low
  by_cases a0 : x % 2 = 1
  · rw [if_pos a0, if_pos a0]; exact h0
  rw [if_neg a0, if_neg a0]
  by_cases a1 : x % 4 = 2
  · rw [if_pos a1, if_pos a1]; exact h1
  rw [if_neg a1, if_neg a1]
  by_cases a2 : x % 8 = 4
  · rw [if_pos a2, if_pos a2]; exact h2
  rw [if_neg a2, if_neg a2]
  by_cases a3 : x % 16 = 8
  · rw [if_pos a3, if_pos a3]; exact h3
  rw [if_neg a3, if_neg a3]
  by_cases a4 : x % 32 = 16
  · rw [if_pos a4, if_pos a4]; exact h4
  rw [if_neg a4, if_neg a4]; exact h5
theorem low_le (x : Nat) : low x ≤ 5 := by unfold low; repeat' split
                                           all_goals omega
theorem tz64_calls (x : Nat) (h0 : x ≠ 0) (h1 : x < 64) (w : World) (h : Tab w) : Calls Tryz.prog 112 #[.int .u64 (x : Int)] w fun E w' => E = .returned (.int .i64 (low x : Int)) ∧ w' = w := by
  have e := tzAt_eq h0 h1
  have hc := h.at x
  have hl := low_le x
  rw [show lowAt x = (tzAt (x : Int)).toNat by rw [e]; rfl] at hc
  have hb : 0 ≤ tzAt (x : Int) ∧ tzAt (x : Int) < 64 := by rw [e]; unfold lowAt; repeat' split
                                                           all_goals omega
  have hx : ¬ (x : Int) = 0 := by omega
  unfold tzAt at hc hb
  obtain ⟨hb0, hb1⟩ := hb
  clear e h h0
  go_enter Tryz.func112, Tryz.ntmps112
  go_wp2
  go_ret
  exact ⟨rfl, rfl⟩
theorem tz_calls (x : Nat) (h0 : x ≠ 0) (h1 : x < 64) (w : World) (h : Tab w) : Calls Tryz.prog 90 #[.int .u64 (x : Int)] w fun E w' => E = .returned (.int .i64 (low x : Int)) ∧ w' = w := by
  have H := Aside0.mk (tz64_calls x h0 h1 w h)
  clear h h0 h1
  go_enter Tryz.func90, Tryz.ntmps90
  go_wp2_with fail
  refine (H.out).mono ?_
  rintro E w2 ⟨rfl, rfl⟩
  go_wp2
  go_ret
  exact ⟨rfl, rfl⟩
end Go.Proofs.YtbmcigakiibncaaGreatDoor.H
namespace Go.Proofs.YtbmcigakiibncaaGreatDoor.H
open Go.RowKit Go.Proofs.YtbmcigakiibncaaGreatDoorW.PrintWords Go.Proofs.YtbmcigakiibncaaGreatDoorW.PrintLast Go.Proofs.YtbmcigakiibncaaGreatDoorW.PrintMore
set_option linter.unusedVariables false
def bitsL (m : Nat) : List Int := ((List.range 6).filter fun i => m.testBit i).map fun (i : Nat) => (i : Int)
theorem bits_all : ((List.range 64).all fun x => x == 0 || (bitsL x == (low x : Int) :: bitsL (x &&& (x - 1)) && bits BinOp.and IntKind.u64 (x : Int) ((x : Int) - 1) == ((x &&& (x - 1) : Nat) : Int) && decide (x &&& (x - 1) < x))) = true := by kernel_rfl
theorem bits_step {x : Nat} (h0 : x ≠ 0) (h1 : x < 64) : bitsL x = (low x : Int) :: bitsL (x &&& (x - 1)) ∧ bits BinOp.and IntKind.u64 (x : Int) ((x : Int) - 1) = ((x &&& (x - 1) : Nat) : Int) ∧ x &&& (x - 1) < x := by
  have h := List.all_eq_true.1 bits_all x (List.mem_range.2 h1)
  simp only [Bool.or_eq_true, beq_iff_eq, Bool.and_eq_true, decide_eq_true_eq] at h
  have := h.resolve_left h0
  exact ⟨this.1.1, this.1.2, this.2⟩
theorem bitsL_len (m : Nat) : (bitsL m).length ≤ 6 := by
  unfold bitsL
  rw [List.length_map]
  exact Nat.le_trans (List.length_filter_le _ _) (by simp)
theorem u64_id {x : Int} (h0 : 0 ≤ x) (h1 : x < 18446744073709551616) : IntKind.u64.wrap x = x := by simp [IntKind.wrap, IntKind.bits, IntKind.signed]; omega
def ListEnd (m : Nat) (w : World) (E : Ending) (w' : World) : Prop := ∃ (A : Option Addr) (c : Nat), E = .returned (.slice A (bitsL m).length c) ∧ (bitsL m).length ≤ c ∧ Kd.C (Kd.int .i64) w' A (bitsL m).length (bitsL m) ∧ Below w.heap.size w w'
set_option maxHeartbeats 2000000 in
theorem list_calls (m : Nat) (hm : m < 64) (w : World) (h : Tab w) : Calls Tryz.prog 41 #[.int .i64 (m : Int)] w (ListEnd m w) := by
  have HT := Aside0.mk h
  have HM := Aside0.mk hm
  clear h hm
  go_enter Tryz.func41, Tryz.ntmps41
  go_upto_region 3 with (fail)
  rw [u64_id (by omega) (by have := HM.out; omega)]
  go_loopg [3, 4] m (fun gg v3 v4 wi => ∃ (ys : List Int) (x : Nat) (So : Nat → Prop), x ≤ gg ∧ v4 = .int .u64 x ∧ x < 64 ∧ Aside0 (ys ++ bitsL x = bitsL m) ∧ Aside0 (Kd.R (Kd.int .i64) 3 wi w.heap.size So v3 ys) ∧ Aside0 (Below w.heap.size w wi))
  case atStart => exact ⟨[], m, fun _ => False, by omega, rfl, HM.out, ⟨by rw [List.nil_append]⟩, ⟨Kd.R_nil _ _ _ _ _⟩, ⟨Below.refl _ _⟩⟩
  case round =>
    obtain ⟨ys, x, So, hgg, rfl, hx, HE, HR, HB⟩ := hrel
    obtain ⟨A, c, rfl⟩ := Kd.R_slice HR.out
    by_cases h0 : x = 0
    · subst h0
      have hE := HE.out
      rw [show bitsL 0 = [] by rfl, List.append_nil] at hE
      subst hE
      have hr := Kd.R_reads' HR.out
      go_wp2
      go_ret
      exact ⟨A, c, rfl, hr.2.1, hr.2.2, (HB.out)⟩
    · have h0z : ¬ (x : Int) = 0 := by omega
      obtain ⟨e1, e2, e3⟩ := bits_step h0 hx
      have HE1 := Aside0.mk (show (ys ++ [(low x : Int)]) ++ bitsL (x &&& (x - 1)) = bitsL m by rw [List.append_assoc, List.singleton_append, ← e1]; exact HE.out)
      have HL1 := Aside0.mk (show ys.length ≤ 6 by have h1 := congrArg List.length HE.out; rw [List.length_append] at h1; have := bitsL_len m; omega)
      have HZ := Aside0.mk (tz_calls x h0 hx wr ((HT.out).below HB.out))
      have HE2 := Aside0.mk e2
      clear e1 e2 HE h0
      go_wp2_with fail
      refine (HZ.out).mono ?_
      rintro E w2 ⟨rfl, rfl⟩
      go_wp2_with ((with_reducible refine gate_builtin (b := .append) (xs := #[.tmp 13, .tmp 16]) rfl ?_); at_builtin; refine Kd.R_append (Kd.int .i64) (w0 := w) w.heap.size rfl (.tmp 13) (.tmp 16) 22 3 (.int .i64 0) 8 rfl Tryz.underlying22 Q.info3 rfl (by decide) (by omega) (.slice A ys.length c) ys (low x : Int) [.int .i64 (low x : Int)] (fun k => So k ∨ w2.heap.size ≤ k) (fun _ => False) rfl rfl rfl (fun _ hk => hk.elim) (fun k hk => .inr hk) (Kd.R_mono HR.out (fun _ hk => .inl hk)) HB.out (HB.out).size (by have := HL1.out; omega) ?_; intro v5 w5 ho5 hb5 hg5 hat5; have HR5 := Aside0.mk ho5; have HB5 := Aside0.mk hb5; clear ho5 hb5 hg5 hat5)
      go_roundg (x &&& (x - 1))
      case measure => omega
      case rel => exact ⟨ys ++ [(low x : Int)], x &&& (x - 1), _, Nat.le_refl _, by rw [HE2.out], by omega, HE1, HR5, HB5⟩
end Go.Proofs.YtbmcigakiibncaaGreatDoor.H
namespace Go.Proofs.YtbmcigakiibncaaGreatDoor.H
open Go.RowKit Go.Proofs.YtbmcigakiibncaaGreatDoorW.PrintWords Go.Proofs.YtbmcigakiibncaaGreatDoorW.PrintLast Go.Proofs.YtbmcigakiibncaaGreatDoorW.PrintMore
set_option linter.unusedVariables false
abbrev Nd := Q.S83
def zN : Nd := ⟨0, 0⟩
theorem at_need {w : World} {A : Option Addr} {n : Nat} {xs : List Nd} (h : Kd.C Q.k83 w A n xs) (i : Nat) (hi : i < n) :
    ∃ ad, A = some ad ∧ w.cell? (ad.add (i * 2)) = some (.int .i64 (xs.getD i zN).f0) ∧ w.cell? ⟨(ad.add (i * 2)).block, (ad.add (i * 2)).off + 1, none⟩ = some (.int .i64 (xs.getD i zN).f1) := by
  obtain ⟨ad, c, e, _, hK, hc0⟩ := Kd.C_get h zN (i : Int) (by omega) (by omega)
  have hc : ∀ j u, c[j]? = some u → w.cell? (ad.add (i * 2 + j)) = some u := fun j u hj => by have := hc0 j u hj; rwa [Int.toNat_natCast] at this
  obtain ⟨_, _, rfl, rfl, rfl⟩ := hK
  refine ⟨ad, e, by have := hc 0 _ rfl; rwa [Nat.add_zero] at this, by rw [← add_field _ _ 1 (by omega)]; exact hc 1 _ rfl⟩
theorem at_sl {α : Type} {d : Kd α} {e : Nat} {w : World} {A : Option Addr} {n : Nat} {xs : List (List α)} (h : Kd.C (Kd.slice e d) w A n xs) (i : Nat) (hi : i < n) :
    ∃ ad A0 c0, A = some ad ∧ w.cell? (ad.add i) = some (.slice A0 (xs.getD i []).length c0) ∧ (xs.getD i []).length ≤ c0 ∧ d.C w A0 (xs.getD i []).length (xs.getD i []) := by
  obtain ⟨ad, c, e, _, hK, hc0⟩ := Kd.C_get h [] (i : Int) (by omega) (by omega)
  have hc : ∀ j u, c[j]? = some u → w.cell? (ad.add (i * 1 + j)) = some u := fun j u hj => by have := hc0 j u hj; rwa [Int.toNat_natCast] at this
  obtain ⟨A0, c0, rfl, l0, g0⟩ := hK
  exact ⟨ad, A0, c0, e, by have hq := hc 0 _ rfl; rwa [Nat.mul_one, Nat.add_zero] at hq, l0, g0⟩
def PredN (g : Nat) (lb : Array Value) (dom : Nd → Prop) (p : Nd → Bool) (w : World) : Prop :=
  ∀ (W : World) (x : Nd), Below w.heap.size w W → dom x → Calls Tryz.prog g (#[.agg #[.int .i64 x.f0, .int .i64 x.f1]] ++ lb) W fun e w' => e = .returned (.bool (p x)) ∧ Below W.heap.size W w'
theorem anyN_at {p : Nd → Bool} {xs : List Nd} {k : Nat} (h : k < xs.length) (hp : p (xs.getD k zN) = true) : xs.any p = true := by
  refine List.any_eq_true.2 ⟨xs[k], List.getElem_mem h, ?_⟩
  rwa [List.getD_eq_getElem?_getD, List.getElem?_eq_getElem h] at hp
theorem anyN_none {p : Nd → Bool} {xs : List Nd} (h : ∀ j : Nat, j < xs.length → p (xs.getD j zN) = false) : xs.any p = false := by
  refine List.any_eq_false.2 fun x hx => ?_
  obtain ⟨j, hj, rfl⟩ := List.getElem_of_mem hx
  have h2 := h j hj
  rw [List.getD_eq_getElem?_getD, List.getElem?_eq_getElem hj] at h2
  simpa using h2
theorem getD_memN {xs : List Nd} {k : Nat} (h : k < xs.length) : xs.getD k zN ∈ xs := by
  rw [List.getD_eq_getElem?_getD, List.getElem?_eq_getElem h]; exact List.getElem_mem h
set_option maxHeartbeats 2000000 in
theorem indexN_calls (A : Option Addr) (c : Nat) (xs : List Nd) (g : Nat) (lb : Array Value) (dom : Nd → Prop) (p : Nd → Bool) (w : World)
    (hr : Kd.C Q.k83 w A xs.length xs) (hd : ∀ x ∈ xs, dom x) (hp : PredN g lb dom p w)
    (eg : ∀ args w, (callFunc g args).run Tryz.prog w = .ok (.enter g args) w) :
    Calls Tryz.prog 108 #[.slice A xs.length c, .func (.func g) #[] lb] w fun e w' => ∃ r : Int, e = .returned (.int .i64 r) ∧ decide (r ≥ 0) = xs.any p ∧ Below w.heap.size w w' := by
  have HR := Aside0.mk hr
  have HP := Aside0.mk hp
  have HD := Aside0.mk hd
  have hm := hr.2.1
  clear hr hp hd
  go_enter Tryz.func108, Tryz.ntmps108
  go_wp2
  go_loopg [5, 8] xs.length (fun gg _ s8 wr => ∃ kk : Nat, kk ≤ xs.length ∧ xs.length - kk ≤ gg ∧ s8 = .int .i64 kk ∧ Aside0 (Below w.heap.size w wr) ∧ Aside0 (∀ j : Nat, j < kk → p (xs.getD j zN) = false))
  case atStart => exact ⟨0, Nat.zero_le _, by omega, rfl, ⟨Below.refl _ w⟩, ⟨fun j hj => absurd hj (Nat.not_lt_zero _)⟩⟩
  case round =>
    obtain ⟨kk, hkk, hg, rfl, BW, HA⟩ := hrel
    by_cases hlt : kk < xs.length
    · have hltz : (kk : Int) < (xs.length : Int) := by omega
      obtain ⟨ad, e0, hx0, hx1⟩ := at_need (HR.out) kk hlt
      cases e0
      replace hx0 := pw_cell_below BW.out hx0
      replace hx1 := pw_cell_below BW.out hx1
      have hcall := HP.out wr (xs.getD kk zN) BW.out (HD.out _ (getD_memN hlt))
      generalize hy : xs.getD kk zN = y at hx0 hx1 hcall
      have HY := Aside0.mk hy
      clear hy
      cases hq : p y with
      | true =>
        rw [hq] at hcall
        have HQ := Aside0.mk hq
        clear hq
        go_wp2_with fail
        refine hcall.mono ?_
        rintro e w' ⟨rfl, hb'⟩
        have HB' := Aside0.mk hb'
        clear hb' hcall
        go_wp2
        go_ret
        refine ⟨(kk : Int), rfl, ?_, below_then BW.out (BW.out).size HB'.out⟩
        rw [anyN_at (k := kk) (by assumption) (by rw [HY.out]; exact HQ.out)]
        simp
      | false =>
        rw [hq] at hcall
        have HQ := Aside0.mk hq
        clear hq
        go_wp2_with fail
        refine hcall.mono ?_
        rintro e w' ⟨rfl, hb'⟩
        have HB' := Aside0.mk hb'
        clear hb' hcall
        go_wp2
        go_roundg (xs.length - (kk + 1))
        case measure => omega
        case rel =>
          refine ⟨kk + 1, by omega, by omega, by go_num, ⟨below_then BW.out (BW.out).size HB'.out⟩, ⟨fun j hj => ?_⟩⟩
          by_cases e : j = kk
          · subst e
            rw [HY.out]; exact HQ.out
          · exact HA.out j (by omega)
    · have hltz : ¬ (kk : Int) < (xs.length : Int) := by omega
      go_wp2
      go_ret
      refine ⟨-1, rfl, ?_, BW.out⟩
      rw [anyN_none (fun j hj => HA.out j (by omega))]
      rfl
theorem containsN_calls (A : Option Addr) (c : Nat) (xs : List Nd) (g : Nat) (lb : Array Value) (dom : Nd → Prop) (p : Nd → Bool) (w : World)
    (hr : Kd.C Q.k83 w A xs.length xs) (hd : ∀ x ∈ xs, dom x) (hp : PredN g lb dom p w)
    (eg : ∀ args w, (callFunc g args).run Tryz.prog w = .ok (.enter g args) w) :
    Calls Tryz.prog 74 #[.slice A xs.length c, .func (.func g) #[] lb] w fun e w' => e = .returned (.bool (xs.any p)) ∧ Below w.heap.size w w' := by
  have H := (indexN_calls A c xs g lb dom p w hr hd hp eg)
  clear hr hd hp
  go_enter Tryz.func74, Tryz.ntmps74
  go_wp2_with fail
  refine H.mono ?_
  rintro e w' ⟨r, rfl, hq, hb⟩
  have HQ := Aside0.mk hq
  have HB := Aside0.mk hb
  clear hq hb H
  go_wp2
  go_ret
  exact ⟨by rw [← HQ.out]; rfl, HB.out⟩
end Go.Proofs.YtbmcigakiibncaaGreatDoor.H
namespace Go.Proofs.YtbmcigakiibncaaGreatDoor.H
open Go.RowKit Go.Proofs.YtbmcigakiibncaaGreatDoorW.PrintWords Go.Proofs.YtbmcigakiibncaaGreatDoorW.PrintLast Go.Proofs.YtbmcigakiibncaaGreatDoorW.PrintMore
set_option linter.unusedVariables false
theorem sat_all : ((List.range 64).all fun (m : Nat) => (List.range 6).all fun (s : Nat) => (bits BinOp.and IntKind.i64 ((m : Int) / 2 ^ s) 1 == 0) == !m.testBit s) = true := by kernel_rfl
theorem sat_bit {m s : Nat} (hm : m < 64) (hs : s < 6) : (bits BinOp.and IntKind.i64 ((m : Int) / 2 ^ s) 1 == 0) = !m.testBit s := by
  have h := List.all_eq_true.1 (List.all_eq_true.1 sat_all m (List.mem_range.2 hm)) s (List.mem_range.2 hs)
  simpa using h
theorem sat1_calls (k s : Nat) (b : Nat) (A : Option Addr) (c : Nat) (ks : List Nat) (w : World) (hb : w.heap[b]? = some (.cells #[.slice A ks.length c] 22 (0, 0))) (hr : Kd.C (Kd.int .i64) w A ks.length (ks.map fun (m : Nat) => (m : Int))) (hk : k < ks.length) (hs : s < 6) (hm : ∀ m ∈ ks, m < 64) :
    Calls Tryz.prog 113 #[.agg #[.int .i64 (k : Int), .int .i64 (s : Int)], .pointer (some ⟨b, 0, none⟩)] w fun e w' => e = .returned (.bool (!(ks.getD k 0).testBit s)) ∧ Below w.heap.size w w' := by
  obtain ⟨ad, e0, hx⟩ := Kd.at_int hr (k : Int) (by omega) (by omega)
  subst e0
  have hv : rd (ks.map fun (m : Nat) => (m : Int)) (k : Int) = ((ks.getD k 0 : Nat) : Int) := by simp [rd, List.getD_eq_getElem?_getD, List.getElem?_eq_getElem hk]
  rw [hv, Int.toNat_natCast] at hx
  have hmv : ks.getD k 0 < 64 := by rw [List.getD_eq_getElem?_getD, List.getElem?_eq_getElem hk]; exact hm _ (List.getElem_mem hk)
  generalize ks.getD k 0 = m at *
  have hkz : (k : Int) < (ks.length : Int) := by omega
  have ha := below_alloc (Below.refl w.heap.size w) (.cells #[.int .i64 (k : Int), .int .i64 (s : Int)] 83)
  have hx1 := pw_cell_below ha hx
  have hb1 := blk_below hb ha
  have hn1 := blk_new w (.cells #[.int .i64 (k : Int), .int .i64 (s : Int)] 83)
  have HB := Aside0.mk ha
  clear hv hr hm hx hb ha
  go_enter Tryz.func113, Tryz.ntmps113
  go_upto_region 1 with (fail)
  generalize (w.alloc (.cells #[.int .i64 (k : Int), .int .i64 (s : Int)] 83)) = W1 at *
  have hc0 : W1.cell? ⟨b, 0, none⟩ = some (.slice (some ad) ks.length c) := (blk_cell hb1 0).trans rfl
  have hc1 : W1.cell? ⟨w.heap.size, 0, none⟩ = some (.int .i64 (k : Int)) := (blk_cell hn1 0).trans rfl
  have hc2 : W1.cell? ⟨w.heap.size, 1, none⟩ = some (.int .i64 (s : Int)) := (blk_cell hn1 1).trans rfl
  clear hb1 hn1
  go_region
  go_wp2
  go_ret
  refine ⟨?_, below_drew1 HB.out⟩
  rw [sat_bit (by assumption) (by assumption)]
  rfl
abbrev Mv := List (List (List (List Nd)))
def altsAt (M : Mv) (q f : Nat) : List (List Nd) := (M.getD q []).getD f []
def needOk (n r : Nat) (x : Nd) : Prop := ∃ k s : Nat, k < r ∧ s < n ∧ x = ⟨(k : Int), (s : Int)⟩
def meets (ks : List Nat) (x : Nd) : Bool := (ks.getD x.f0.toNat 0).testBit x.f1.toNat
def satBit (M : Mv) (f : Nat) (ks : List Nat) (q : Nat) : Bool := (altsAt M q f).any fun l => l.all (meets ks)
theorem or_all : ((List.range 64).all fun (o : Nat) => (List.range 6).all fun (q : Nat) => (bits BinOp.or IntKind.i64 (o : Int) (wrap64 (2 ^ min q 64)) == ((o ||| 2 ^ q : Nat) : Int)) && decide (o ||| 2 ^ q < 64) && ((List.range 6).all fun i => (o ||| 2 ^ q).testBit i == (o.testBit i || i == q))) = true := by kernel_rfl
theorem or_bit {o q : Nat} (ho : o < 64) (hq : q < 6) : bits BinOp.or IntKind.i64 (o : Int) (wrap64 (2 ^ min q 64)) = ((o ||| 2 ^ q : Nat) : Int) ∧ o ||| 2 ^ q < 64 ∧ ∀ i, i < 6 → (o ||| 2 ^ q).testBit i = (o.testBit i || i == q) := by
  have h := List.all_eq_true.1 (List.all_eq_true.1 or_all o (List.mem_range.2 ho)) q (List.mem_range.2 hq)
  simp only [Bool.and_eq_true, beq_iff_eq, decide_eq_true_eq] at h
  exact ⟨h.1.1, h.1.2, fun i hi => by have := List.all_eq_true.1 h.2 i (List.mem_range.2 hi); simpa using this⟩
theorem any_not {ks : List Nat} {l : List Nd} : (l.any fun x => !meets ks x) = !l.all (meets ks) := by
  induction l with
  | nil => rfl
  | cons a r ih => rw [List.any_cons, List.all_cons, ih, Bool.not_and]
theorem any_none_sl {α : Type} {p : List α → Bool} {l : List (List α)} (h : ∀ i, i < l.length → p (l.getD i []) = false) : l.any p = false := by
  refine List.any_eq_false.2 fun x hx => ?_
  obtain ⟨j, hj, rfl⟩ := List.getElem_of_mem hx
  have h2 := h j hj
  rw [List.getD_eq_getElem?_getD, List.getElem?_eq_getElem hj] at h2
  simpa using h2
theorem sat_pred (b : Nat) (A : Option Addr) (c : Nat) (ks : List Nat) (w : World) (hb : w.heap[b]? = some (.cells #[.slice A ks.length c] 22 (0, 0))) (hr : Kd.C (Kd.int .i64) w A ks.length (ks.map fun (m : Nat) => (m : Int))) (hm : ∀ m ∈ ks, m < 64) :
    PredN 113 #[.pointer (some ⟨b, 0, none⟩)] (needOk 6 ks.length) (fun x => !meets ks x) w := by
  rintro W x hW ⟨k, s, hk, hs, rfl⟩
  exact sat1_calls k s b A c ks W (blk_below hb hW) (Kd.C_below hr hW) hk hs hm
def SatEnd (M : Mv) (f : Nat) (ks : List Nat) (w : World) (E : Ending) (w' : World) : Prop := ∃ o : Nat, E = .returned (.int .i64 (o : Int)) ∧ o < 64 ∧ (∀ i, i < 6 → o.testBit i = (decide (i < M.length) && satBit M f ks i)) ∧ Below w.heap.size w w'
set_option maxHeartbeats 4000000 in
set_option maxRecDepth 100000 in
theorem sat_calls (M : Mv) (f : Nat) (ks : List Nat) (st : Int) (A1 : Option Addr) (n1 c1 : Nat) (A2 : Option Addr) (c2 : Nat) (A : Option Addr) (c : Nat) (w : World)
    (hM : Kd.C kA3 w A2 M.length M) (hr : Kd.C (Kd.int .i64) w A ks.length (ks.map fun (m : Nat) => (m : Int))) (hn : M.length ≤ 6) (hks : ∀ m ∈ ks, m < 64)
    (hf : ∀ q, q < M.length → f < (M.getD q []).length) (hx : ∀ q, q < M.length → ∀ l ∈ altsAt M q f, ∀ x ∈ l, needOk 6 ks.length x) :
    Calls Tryz.prog 91 #[.agg #[.slice A1 n1 c1, .int .i64 st, .slice A2 M.length c2], .int .i64 (f : Int), .slice A ks.length c] w (SatEnd M f ks w) := by
  have hmf := run_mkfun
  have HM := Aside0.mk hM
  have HK := Aside0.mk hr
  have HN := Aside0.mk hn
  have HS := Aside0.mk hks
  have HF := Aside0.mk hf
  have HX := Aside0.mk hx
  have ha := below_alloc (below_alloc (Below.refl w.heap.size w) (.cells #[.slice A1 n1 c1, .int .i64 st, .slice A2 M.length c2] 25)) (.cells #[.slice A ks.length c] 22)
  have hb1 := blk_alloc (blk_new w (.cells #[.slice A1 n1 c1, .int .i64 st, .slice A2 M.length c2] 25)) (.cells #[.slice A ks.length c] 22)
  have hb2 := blk_at2 w (.cells #[.slice A1 n1 c1, .int .i64 st, .slice A2 M.length c2] 25) (.cells #[.slice A ks.length c] 22)
  have HB := Aside0.mk ha
  have HB1 := Aside0.mk hb1
  have HB2 := Aside0.mk hb2
  clear hM hr hn hks hf hx ha hb1 hb2
  go_enter Tryz.func91, Tryz.ntmps91
  go_upto_region 1 with (fail)
  generalize ((w.alloc (.cells #[.slice A1 n1 c1, .int .i64 st, .slice A2 M.length c2] 25)).alloc (.cells #[.slice A ks.length c] 22)) = W1 at *
  have hk0 : W1.cell? ⟨w.heap.size, 2, none⟩ = some (.slice A2 M.length c2) := (blk_cell HB1.out 2).trans rfl
  go_wp2
  clear hk0
  go_loopg [7, 14] M.length (fun gg v7 v14 wi => ∃ o q : Nat, q ≤ M.length ∧ M.length - q ≤ gg ∧ v7 = .int .i64 o ∧ v14 = .int .i64 q ∧ o < 64 ∧ Aside0 (∀ i, i < 6 → o.testBit i = (decide (i < q) && satBit M f ks i)) ∧ Aside0 (Below w.heap.size w wi) ∧
    Aside0 (wi.heap[w.heap.size]? = some (.cells #[.slice A1 n1 c1, .int .i64 st, .slice A2 M.length c2] 25 (0, 0))) ∧ Aside0 (wi.heap[w.heap.size + 1]? = some (.cells #[.slice A ks.length c] 22 (0, 0))))
  case atStart => exact ⟨0, 0, by omega, by omega, rfl, rfl, by omega, ⟨fun i hi => by simp⟩, HB, HB1, HB2⟩
  case round =>
    clear HB HB1 HB2
    obtain ⟨o, q, hq, hgg, rfl, rfl, ho, HO, HB, HB1, HB2⟩ := hrel
    by_cases hlt : q < M.length
    · have hltz : (q : Int) < (M.length : Int) := by omega
      have hk0 : wr.cell? ⟨w.heap.size, 2, none⟩ = some (.slice A2 M.length c2) := (blk_cell HB1.out 2).trans rfl
      obtain ⟨ad, A3, c3, e, hx1, hl3, hC3⟩ := at_sl HM.out q hlt
      subst e
      have hfl := HF.out q hlt
      obtain ⟨ad4, A4, c4, e, hx2, hl4, hC4⟩ := at_sl hC3 f hfl
      subst e
      replace hx1 := pw_cell_below (HB.out) hx1
      replace hx2 := pw_cell_below (HB.out) hx2
      have hflz : (f : Int) < ((M.getD q []).length : Int) := by omega
      have HX1 := Aside0.mk (HX.out q hlt)
      have HSB := Aside0.mk (show satBit M f ks q = ((M.getD q []).getD f []).any fun l => l.all (meets ks) from rfl)
      unfold altsAt at HX1
      generalize (M.getD q []).length = m3 at *
      generalize (M.getD q []).getD f [] = alts at *
      have HC4 := Aside0.mk hC4
      clear hC3 hC4 hl3 hl4 hfl
      go_wp2
      clear hk0 hx1 hx2
      go_loopg [7, 26] alts.length (fun gg2 v7 v26 wi => ∃ j : Nat, j ≤ alts.length ∧ alts.length - j ≤ gg2 ∧ v7 = .int .i64 o ∧ v26 = .int .i64 j ∧ Aside0 (∀ i, i < j → (alts.getD i []).all (meets ks) = false) ∧ Aside0 (Below w.heap.size w wi) ∧
        Aside0 (wi.heap[w.heap.size]? = some (.cells #[.slice A1 n1 c1, .int .i64 st, .slice (some ad) M.length c2] 25 (0, 0))) ∧ Aside0 (wi.heap[w.heap.size + 1]? = some (.cells #[.slice A ks.length c] 22 (0, 0))))
      case atStart => exact ⟨0, by omega, by omega, rfl, rfl, ⟨fun i hi => absurd hi (Nat.not_lt_zero _)⟩, HB, HB1, HB2⟩
      case round =>
        clear HB HB1 HB2
        obtain ⟨j, hj, hgg2, rfl, rfl, HA, HB, HB1, HB2⟩ := hrel
        by_cases hjt : j < alts.length
        · have hjtz : (j : Int) < (alts.length : Int) := by omega
          obtain ⟨ad5, A5, c5, e, hx5, hl5, hC5⟩ := at_sl HC4.out j hjt
          subst e
          replace hx5 := pw_cell_below (HB.out) hx5
          have HL := Aside0.mk (show ∀ x ∈ alts.getD j [], needOk 6 ks.length x from HX1.out _ (by rw [List.getD_eq_getElem?_getD, List.getElem?_eq_getElem hjt]; exact List.getElem_mem hjt))
          have HAJ := Aside0.mk (show (alts.getD j []).all (meets ks) = true → (alts.any fun l => l.all (meets ks)) = true from fun h => List.any_eq_true.2 ⟨alts.getD j [], by rw [List.getD_eq_getElem?_getD, List.getElem?_eq_getElem hjt]; exact List.getElem_mem hjt, h⟩)
          generalize hy : alts.getD j [] = y at *
          have HY := Aside0.mk hy
          clear hy
          have HC := Aside0.mk (containsN_calls A5 c5 y 113 #[.pointer (some ⟨w.heap.size + 1, 0, none⟩)] (needOk 6 ks.length) (fun x => !meets ks x) wr (Kd.C_below hC5 HB.out) HL.out (sat_pred (w.heap.size + 1) A c ks wr HB2.out (Kd.C_below HK.out HB.out) HS.out) (fun _ _ => rfl))
          clear hC5 hl5
          cases hm : y.all (meets ks) with
          | true =>
            rw [any_not, hm] at HC
            have HAY := Aside0.mk (HAJ.out hm)
            clear hm
            go_wp2_with fail
            refine (HC.out).mono ?_
            rintro E w5 ⟨rfl, hb⟩
            have HB5 := Aside0.mk (below_then HB.out (HB.out).size hb)
            have HB51 := Aside0.mk (blk_below HB1.out hb)
            have HB52 := Aside0.mk (blk_below HB2.out hb)
            have HOR := Aside0.mk (or_bit ho (show q < 6 by have := HN.out; omega))
            clear hb HB HB1 HB2 HC hx5
            go_wp2
            go_roundg (M.length - (q + 1))
            case measure => omega
            case rel =>
              obtain ⟨hv, ho2, hob⟩ := HOR.out
              refine ⟨o ||| 2 ^ q, q + 1, by omega, by omega, by rw [hv], by rw [wrap_succ (by omega) (by have := HN.out; omega)]; rfl, ho2, ⟨fun i hi => ?_⟩, HB5, HB51, HB52⟩
              rw [hob i hi, HO.out i hi]
              by_cases e : i = q
              · subst e
                rw [HSB.out, HAY.out, beq_self_eq_true, Bool.or_true, decide_eq_true (by omega), Bool.and_true]
              · rw [beq_eq_false_iff_ne.2 e, Bool.or_false, show decide (i < q + 1) = decide (i < q) from decide_eq_decide.2 (by omega)]
          | false =>
            rw [any_not, hm] at HC
            have HAY := Aside0.mk hm
            clear hm
            go_wp2_with fail
            refine (HC.out).mono ?_
            rintro E w5 ⟨rfl, hb⟩
            have HB5 := Aside0.mk (below_then HB.out (HB.out).size hb)
            have HB51 := Aside0.mk (blk_below HB1.out hb)
            have HB52 := Aside0.mk (blk_below HB2.out hb)
            clear hb HB HB1 HB2 HC hx5
            go_wp2
            go_roundg (alts.length - (j + 1))
            case measure => omega
            case rel =>
              refine ⟨j + 1, by omega, by omega, rfl, by rw [wrap_succ (by omega) (by have := (HC4.out).2.1; omega)]; rfl, ⟨fun i hi => ?_⟩, HB5, HB51, HB52⟩
              by_cases e : i = j
              · subst e
                rw [HY.out]; exact HAY.out
              · exact HA.out i (by omega)
        · have hjtz : ¬ (j : Int) < (alts.length : Int) := by omega
          have HAN := Aside0.mk (show (alts.any fun l => l.all (meets ks)) = false from any_none_sl (fun i hi => HA.out i (by omega)))
          go_wp2
          go_roundg (M.length - (q + 1))
          case measure => omega
          case rel =>
            refine ⟨o, q + 1, by omega, by omega, rfl, by rw [wrap_succ (by omega) (by have := HN.out; omega)]; rfl, ho, ⟨fun i hi => ?_⟩, HB, HB1, HB2⟩
            rw [HO.out i hi]
            by_cases e : i = q
            · subst e
              rw [HSB.out, HAN.out, Bool.and_false, Bool.and_false]
            · rw [show decide (i < q + 1) = decide (i < q) from decide_eq_decide.2 (by omega)]
    · have hltz : ¬ (q : Int) < (M.length : Int) := by omega
      have hqe : q = M.length := by omega
      subst hqe
      go_wp2
      go_ret
      exact ⟨o, rfl, ho, HO.out, HB.out⟩
end Go.Proofs.YtbmcigakiibncaaGreatDoor.H
namespace Go.Proofs.YtbmcigakiibncaaGreatDoor.H
open Go.RowKit Go.Proofs.YtbmcigakiibncaaGreatDoorW.PrintWords Go.Proofs.YtbmcigakiibncaaGreatDoorW.PrintLast Go.Proofs.YtbmcigakiibncaaGreatDoorW.PrintMore
open Go.Proofs.YtbmcigakiibncaaGreatDoor.Q (S28 k28 rd_T28 z28 at_T28)
set_option linter.unusedVariables false
def IsMask (n : Nat) (p : Nat → Bool) (o : Nat) : Prop := o < 64 ∧ ∀ i, i < 6 → o.testBit i = (decide (i < n) && p i)
def MvOk (rk : List Int) (M : Mv) : Prop := M.length ≤ 6 ∧ (∀ q, q < M.length → (M.getD q []).length = rk.length) ∧ ∀ q f : Nat, q < M.length → f < rk.length → ∀ l ∈ altsAt M q f, ∀ x ∈ l, needOk M.length (rd rk (f : Int)).toNat x
theorem overL_mem {rk : List Int} {l : List S28} {t : S28} (h : overL rk l = true) (ht : t ∈ l) : overB rk t = true := by
  induction l with
  | nil => cases ht
  | cons a r ih =>
    rw [overL, Bool.and_eq_true] at h
    rcases List.mem_cons.1 ht with rfl | ht
    · exact h.1
    · exact ih h.2 ht
theorem any_congr {α : Type} {p q : α → Bool} {l : List α} (h : ∀ x ∈ l, p x = q x) : l.any p = l.any q := by
  induction l with
  | nil => rfl
  | cons a r ih => rw [List.any_cons, List.any_cons, h a List.mem_cons_self, ih fun x hx => h x (List.mem_cons_of_mem _ hx)]
theorem all_congr {α : Type} {p q : α → Bool} {l : List α} (h : ∀ x ∈ l, p x = q x) : l.all p = l.all q := by
  induction l with
  | nil => rfl
  | cons a r ih => rw [List.all_cons, List.all_cons, h a List.mem_cons_self, ih fun x hx => h x (List.mem_cons_of_mem _ hx)]
theorem full_all : ((List.range 7).all fun (n : Nat) => (wrap64 (wrap64 (2 ^ min n 64) - 1) == ((2 ^ n - 1 : Nat) : Int)) && decide (2 ^ n - 1 < 64) && ((List.range 6).all fun i => (2 ^ n - 1).testBit i == decide (i < n))) = true := by kernel_rfl
theorem full_bit {n : Nat} (hn : n ≤ 6) : wrap64 (wrap64 (2 ^ min n 64) - 1) = ((2 ^ n - 1 : Nat) : Int) ∧ IsMask n (fun _ => true) (2 ^ n - 1) := by
  have h := List.all_eq_true.1 full_all n (List.mem_range.2 (by omega))
  simp only [Bool.and_eq_true, beq_iff_eq, decide_eq_true_eq] at h
  exact ⟨h.1.1, h.1.2, fun i hi => by have := List.all_eq_true.1 h.2 i (List.mem_range.2 hi); rw [Bool.and_true]; exact beq_iff_eq.1 this⟩
end Go.Proofs.YtbmcigakiibncaaGreatDoor.H
namespace Go.Proofs.YtbmcigakiibncaaGreatDoor.H
open Go.RowKit Go.Proofs.YtbmcigakiibncaaGreatDoorW.PrintWords Go.Proofs.YtbmcigakiibncaaGreatDoorW.PrintLast Go.Proofs.YtbmcigakiibncaaGreatDoorW.PrintMore
set_option linter.unusedVariables false
theorem rank_le {rk : List Int} (h : ranksB rk = true) {f : Nat} (hf : f < rk.length) : 0 ≤ rd rk (f : Int) ∧ rd rk (f : Int) ≤ 4 := by
  unfold ranksB at h
  have hm := rd_mem (xs := rk) hf
  generalize rd rk (f : Int) = r at *
  simp only [Bool.and_eq_true, List.all_eq_true, decide_eq_true_eq] at h
  exact h.1 r hm
theorem getD_memA {α : Type} {xs : List (List α)} {k : Nat} (h : k < xs.length) : xs.getD k [] ∈ xs := by
  rw [List.getD_eq_getElem?_getD, List.getElem?_eq_getElem h]; exact List.getElem_mem h
end Go.Proofs.YtbmcigakiibncaaGreatDoor.H
namespace Go.Proofs.YtbmcigakiibncaaGreatDoor.H
open Go.RowKit Go.Proofs.YtbmcigakiibncaaGreatDoorW.PrintWords Go.Proofs.YtbmcigakiibncaaGreatDoorW.PrintLast Go.Proofs.YtbmcigakiibncaaGreatDoorW.PrintMore
open Go.Proofs.YtbmcigakiibncaaGreatDoor.Q (S28 k28 rd_T28 z28 at_T28)
set_option linter.unusedVariables false
theorem contains_all : ((List.range 64).all fun (o : Nat) => (List.range 6).all fun (s : Nat) => Q.slices_Contains_int_int.f 20 (bitsL o) (s : Int) == some (o.testBit s)) = true := by kernel_rfl
theorem contains_bit {o s : Nat} (ho : o < 64) (hs : s < 6) : Q.slices_Contains_int_int.f 20 (bitsL o) (s : Int) = some (o.testBit s) := by
  have h := List.all_eq_true.1 (List.all_eq_true.1 contains_all o (List.mem_range.2 ho)) s (List.mem_range.2 hs)
  simpa using h
theorem box3_cells {W : World} {b : Nat} {x y z : Value} {t : TypeId} (h : W.heap[b]? = some (.cells #[x, y, z] t (0, 0))) : W.cell? ⟨b, 0, none⟩ = some x ∧ W.cell? ⟨b, 1, none⟩ = some y ∧ W.cell? ⟨b, 2, none⟩ = some z :=
  ⟨(blk_cell h 0).trans rfl, (blk_cell h 1).trans rfl, (blk_cell h 2).trans rfl⟩
theorem box2_cells {W : World} {b : Nat} {x y : Value} {t : TypeId} (h : W.heap[b]? = some (.cells #[x, y] t (0, 0))) : W.cell? ⟨b, 0, none⟩ = some x ∧ W.cell? ⟨b, 1, none⟩ = some y :=
  ⟨(blk_cell h 0).trans rfl, (blk_cell h 1).trans rfl⟩
structure AT2 (w W : World) (a b : Array Value) : Prop where
  hb : Below w.heap.size w W
  h1 : W.heap[w.heap.size]? = some (.cells a 25 (0, 0))
  h2 : W.heap[w.heap.size + 1]? = some (.cells b 28 (0, 0))
theorem AT2.start (w : World) (a b : Array Value) : AT2 w ((w.alloc (.cells a 25)).alloc (.cells b 28)) a b := ⟨below_alloc (below_alloc (Below.refl _ _) _) _, blk_alloc (blk_new w (.cells a 25)) (.cells b 28), blk_at2 w (.cells a 25) (.cells b 28)⟩
theorem AT2.below {w W W1 : World} {a b : Array Value} (h : AT2 w W a b) (hb : Below W.heap.size W W1) : AT2 w W1 a b := ⟨below_then h.hb h.hb.size hb, blk_below h.h1 hb, blk_below h.h2 hb⟩
end Go.Proofs.YtbmcigakiibncaaGreatDoor.H
namespace Go.Proofs.YtbmcigakiibncaaGreatDoor.H
open Go.RowKit Go.Proofs.YtbmcigakiibncaaGreatDoorW.PrintWords Go.Proofs.YtbmcigakiibncaaGreatDoorW.PrintLast Go.Proofs.YtbmcigakiibncaaGreatDoorW.PrintMore
set_option linter.unusedVariables false
def nbad (r n : Int) (x : Nd) : Bool := decide (x.f0 < 0) || decide (x.f0 ≥ r) || decide (x.f1 < 0) || decide (x.f1 ≥ n)
def befI (x y : Nd) : Int := if x.f0 = y.f0 then x.f1 - y.f1 else x.f0 - y.f0
def upN (l : List Nd) : Bool := (List.range (l.length - 1)).all fun i => decide (befI (l.getD i zN) (l.getD (i + 1) zN) < 0)
def cmpL : List Nd → List Nd → Int
  | [], [] => 0
  | [], _ :: _ => -1
  | _ :: _, [] => 1
  | x :: a, y :: b => if befI x y ≠ 0 then befI x y else cmpL a b
def upL (l : List (List Nd)) : Bool := (List.range (l.length - 1)).all fun i => decide (cmpL (l.getD i []) (l.getD (i + 1) []) < 0)
def listOk (r n : Int) (l : List Nd) : Bool := decide (l.length ≤ 24) && !(l.any (nbad r n)) && upN l
def altsOk (r n : Int) (l : List (List Nd)) : Bool := decide (l.length ≤ 12) && l.all (listOk r n) && upL l
def mrowOk (rk : List Int) (n : Int) (row : List (List (List Nd))) : Bool := decide (row.length = rk.length) && (List.range rk.length).all fun f => altsOk (rd rk (f : Int)) n (row.getD f [])
def auB (rk : List Int) (st : Int) (M : Mv) : Bool := ranksB rk && decide (1 ≤ M.length) && decide (M.length ≤ 6) && decide (0 ≤ st) && decide (st < (M.length : Int)) && M.all (mrowOk rk (M.length : Int))
def smallN (x : Nd) : Prop := 0 ≤ x.f0 ∧ x.f0 < 100 ∧ 0 ≤ x.f1 ∧ x.f1 < 100
theorem range_false {n i : Nat} {p : Nat → Bool} (hi : i < n) (h : p i = false) : (List.range n).all p = false := by
  cases e : (List.range n).all p with
  | false => rfl
  | true => rw [List.all_eq_true.1 e i (List.mem_range.2 hi)] at h; cases h
theorem range_true {n : Nat} {p : Nat → Bool} (h : ∀ i, i < n → p i = true) : (List.range n).all p = true := List.all_eq_true.2 fun i hi => h i (List.mem_range.1 hi)
set_option maxHeartbeats 8000000 in
set_option maxRecDepth 100000 in
theorem badG_calls (x : Nd) (f n : Nat) (ba bf bn : Nat) (rk : List Int) (A1 : Option Addr) (c1 : Nat) (v1 v2 : Value) (w : World) (ha : w.heap[ba]? = some (.cells #[.slice A1 rk.length c1, v1, v2] 25 (0, 0))) (hbf : w.heap[bf]? = some (.cells #[.int .i64 (f : Int)] 3 (0, 0))) (hbn : w.heap[bn]? = some (.cells #[.int .i64 (n : Int)] 3 (0, 0)))
    (hr : Kd.C (Kd.int .i64) w A1 rk.length rk) (hf : f < rk.length) :
    Calls Tryz.prog 73 #[.agg #[.int .i64 x.f0, .int .i64 x.f1], .pointer (some ⟨ba, 0, none⟩), .pointer (some ⟨bf, 0, none⟩), .pointer (some ⟨bn, 0, none⟩)] w fun e w' => e = .returned (.bool (nbad (rd rk (f : Int)) (n : Int) x)) ∧ Below w.heap.size w w' := by
  obtain ⟨k, s⟩ := x
  obtain ⟨ad, e0, hx⟩ := Kd.at_int hr (f : Int) (by omega) (by omega)
  subst e0
  rw [Int.toNat_natCast] at hx
  unfold nbad
  simp only
  generalize rd rk (f : Int) = r at *
  have hfz : (f : Int) < (rk.length : Int) := by omega
  have hb1 := below_alloc (Below.refl w.heap.size w) (.cells #[.int .i64 k, .int .i64 s] 83)
  have hx1 := pw_cell_below hb1 hx
  have ha1 := blk_below ha hb1
  have hf1 := blk_below hbf hb1
  have hn1 := blk_below hbn hb1
  have hnew := blk_new w (.cells #[.int .i64 k, .int .i64 s] 83)
  have HB := Aside0.mk hb1
  clear hx hr ha hbf hbn hf hb1
  go_enter Tryz.func73, Tryz.ntmps73
  go_upto_region 1 with (fail)
  generalize (w.alloc (.cells #[.int .i64 k, .int .i64 s] 83)) = W1 at *
  have hc0 : W1.cell? ⟨ba, 0, none⟩ = some (.slice (some ad) rk.length c1) := (blk_cell ha1 0).trans rfl
  have hc1 : W1.cell? ⟨bf, 0, none⟩ = some (.int .i64 (f : Int)) := (blk_cell hf1 0).trans rfl
  have hc2 : W1.cell? ⟨bn, 0, none⟩ = some (.int .i64 (n : Int)) := (blk_cell hn1 0).trans rfl
  have hc3 : W1.cell? ⟨w.heap.size, 0, none⟩ = some (.int .i64 k) := (blk_cell hnew 0).trans rfl
  have hc4 : W1.cell? ⟨w.heap.size, 1, none⟩ = some (.int .i64 s) := (blk_cell hnew 1).trans rfl
  clear ha1 hf1 hn1 hnew
  cases q1 : decide (k < 0) with
  | true =>
    have HV := Aside0.mk (show (decide (k < 0) || decide (k ≥ r) || decide (s < 0) || decide (s ≥ (n : Int))) = true by rw [q1]; rfl)
    go_quiet (fail)
    go_wp2
    go_ret
    exact ⟨by rw [HV.out]; rfl, by apply pw_below_drewN; exact HB.out⟩
  | false =>
    cases q2 : decide (k ≥ r) with
    | true =>
      have HV := Aside0.mk (show (decide (k < 0) || decide (k ≥ r) || decide (s < 0) || decide (s ≥ (n : Int))) = true by rw [q1, q2]; rfl)
      go_quiet (fail)
      go_wp2
      go_ret
      exact ⟨by rw [HV.out]; rfl, by apply pw_below_drewN; exact HB.out⟩
    | false =>
      cases q3 : decide (s < 0) with
      | true =>
        have HV := Aside0.mk (show (decide (k < 0) || decide (k ≥ r) || decide (s < 0) || decide (s ≥ (n : Int))) = true by rw [q1, q2, q3]; rfl)
        go_quiet (fail)
        go_wp2
        go_ret
        exact ⟨by rw [HV.out]; rfl, by apply pw_below_drewN; exact HB.out⟩
      | false =>
        cases q4 : decide (s ≥ (n : Int)) with
        | true =>
          have HV := Aside0.mk (show (decide (k < 0) || decide (k ≥ r) || decide (s < 0) || decide (s ≥ (n : Int))) = true by rw [q1, q2, q3, q4]; rfl)
          go_quiet (fail)
          go_wp2
          go_ret
          exact ⟨by rw [HV.out]; rfl, by apply pw_below_drewN; exact HB.out⟩
        | false =>
          have HV := Aside0.mk (show (decide (k < 0) || decide (k ≥ r) || decide (s < 0) || decide (s ≥ (n : Int))) = false by rw [q1, q2, q3, q4]; rfl)
          go_quiet (fail)
          go_wp2
          go_ret
          exact ⟨by rw [HV.out]; rfl, by apply pw_below_drewN; exact HB.out⟩
theorem badG_pred (f n : Nat) (ba bf bn : Nat) (rk : List Int) (A1 : Option Addr) (c1 : Nat) (v1 v2 : Value) (w : World) (ha : w.heap[ba]? = some (.cells #[.slice A1 rk.length c1, v1, v2] 25 (0, 0))) (hbf : w.heap[bf]? = some (.cells #[.int .i64 (f : Int)] 3 (0, 0))) (hbn : w.heap[bn]? = some (.cells #[.int .i64 (n : Int)] 3 (0, 0)))
    (hr : Kd.C (Kd.int .i64) w A1 rk.length rk) (hf : f < rk.length) :
    PredN 73 #[.pointer (some ⟨ba, 0, none⟩), .pointer (some ⟨bf, 0, none⟩), .pointer (some ⟨bn, 0, none⟩)] (fun _ => True) (nbad (rd rk (f : Int)) (n : Int)) w :=
  fun W x hW _ => badG_calls x f n ba bf bn rk A1 c1 v1 v2 W (blk_below ha hW) (blk_below hbf hW) (blk_below hbn hW) (Kd.C_below hr hW) hf
theorem before_calls (x y : Nd) (hx : smallN x) (hy : smallN y) (W : World) : Calls Tryz.prog 76 #[.agg #[.int .i64 x.f0, .int .i64 x.f1], .agg #[.int .i64 y.f0, .int .i64 y.f1]] W fun E w' => E = .returned (.int .i64 (befI x y)) ∧ Below W.heap.size W w' := by
  obtain ⟨a1, a2, a3, a4⟩ := hx
  obtain ⟨b1, b2, b3, b4⟩ := hy
  refine Q.auto_Before.calls x.f0 x.f1 y.f0 y.f1 (befI x y) W ?_
  unfold Q.auto_Before.f befI
  by_cases h : x.f0 = y.f0
  · rw [if_pos h, if_pos h, wr_id (by omega) (by omega)]
  · rw [if_neg h, if_neg h, wr_id (by omega) (by omega)]
set_option maxHeartbeats 4000000 in
theorem risingG_calls (A : Option Addr) (c : Nat) (l : List Nd) (w : World) (hr : Kd.C Q.k83 w A l.length l) (hl : l.length ≤ 24) (hx : ∀ x ∈ l, smallN x) :
    Calls Tryz.prog 75 #[.slice A l.length c, .func (.func 76) #[] #[]] w fun e w' => e = .returned (.bool (upN l)) ∧ Below w.heap.size w w' := by
  have HR := Aside0.mk hr
  have HL := Aside0.mk hl
  have HX := Aside0.mk hx
  clear hr hl hx
  go_enter Tryz.func75, Tryz.ntmps75
  go_wp2
  go_loopg [5] l.length (fun gg v5 wi => ∃ j : Nat, l.length - j ≤ gg ∧ v5 = .int .i64 ((j : Int) + 1) ∧ (j ≤ l.length) ∧ Aside0 (Below w.heap.size w wi) ∧ Aside0 (∀ i, i < j → i < l.length - 1 → decide (befI (l.getD i zN) (l.getD (i + 1) zN) < 0) = true))
  case atStart => exact ⟨0, by omega, by rfl, by omega, ⟨Below.refl _ _⟩, ⟨fun i hi => absurd hi (Nat.not_lt_zero _)⟩⟩
  case round =>
    obtain ⟨j, hgg, rfl, hj, HB, HA⟩ := hrel
    by_cases hlt : j + 1 < l.length
    · have hltz : (j : Int) + 1 < (l.length : Int) := by omega
      have hlt0 : (j : Int) < (l.length : Int) := by omega
      have hwj : IntKind.i64.wrap (j : Int) = (j : Int) := by rw [i64_w]; exact wr_id (by omega) (by have := HL.out; omega)
      have hl24 : (l.length : Int) ≤ 24 := by have := HL.out; omega
      obtain ⟨ad, e, hx0, hx1⟩ := at_need HR.out j (by omega)
      subst e
      obtain ⟨ad', e, hy0, hy1⟩ := at_need HR.out (j + 1) hlt
      cases e
      replace hx0 := pw_cell_below HB.out hx0
      replace hx1 := pw_cell_below HB.out hx1
      replace hy0 := pw_cell_below HB.out hy0
      replace hy1 := pw_cell_below HB.out hy1
      have h1 := HX.out _ (getD_memN (k := j) (by omega))
      have h2 := HX.out _ (getD_memN (k := j + 1) hlt)
      generalize hxe : l.getD j zN = x at *
      generalize hye : l.getD (j + 1) zN = y at *
      have HE := Aside0.mk (And.intro hxe hye)
      clear hxe hye
      have HBe := Aside0.mk fun W : World => before_calls x y h1 h2 W
      have h0j : (0 : Int) ≤ (j : Int) + 1 := by omega
      clear h1 h2
      generalize hv : befI x y = v at *
      have HV := Aside0.mk hv
      clear hv
      by_cases hneg : v < 0
      · have hnle : ¬ 0 ≤ v := by omega
        have HNG := Aside0.mk hneg
        clear hneg
        go_upto_region 4 with (fail)
        go_region_held3 (fun w' => (w'.cell? (ad.add (j * 2)) = some (.int .i64 x.f0) ∧ w'.cell? ⟨(ad.add (j * 2)).block, (ad.add (j * 2)).off + 1, none⟩ = some (.int .i64 x.f1)) ∧ (w'.cell? (ad.add ((j + 1) * 2)) = some (.int .i64 y.f0) ∧ w'.cell? ⟨(ad.add ((j + 1) * 2)).block, (ad.add ((j + 1) * 2)).off + 1, none⟩ = some (.int .i64 y.f1)))
          (first | exact ⟨⟨hx0, hx1⟩, hy0, hy1⟩ | exact ⟨⟨pw_cell_below HB2.out hx0, pw_cell_below HB2.out hx1⟩, pw_cell_below HB2.out hy0, pw_cell_below HB2.out hy1⟩ | fail)
          (first | (go_at_call 76; (with_reducible refine (HBe.out _).mono ?_); rintro E w2 ⟨rfl, hb⟩; have HB2 := Aside0.mk (below_then (below_drew (Below.refl wr.heap.size wr)) (below_drew (Below.refl wr.heap.size wr)).size hb); clear hb) | fail)
        go_wp2
        go_roundg (l.length - (j + 1))
        case measure => omega
        case rel =>
          refine ⟨j + 1, by omega, by first | rfl | (rw [wrap_succ (by omega) (by omega)]; rfl), by omega, ⟨below_then HB.out (HB.out).size HB2.out⟩, ⟨fun i hi hi2 => ?_⟩⟩
          by_cases e : i = j
          · subst e
            rw [(HE.out).1, (HE.out).2, HV.out]
            exact decide_eq_true HNG.out
          · exact HA.out i (by omega) hi2
      · have hnle : 0 ≤ v := by omega
        have HNG := Aside0.mk hneg
        clear hneg
        go_upto_region 4 with (fail)
        go_region_held3 (fun w' => (w'.cell? (ad.add (j * 2)) = some (.int .i64 x.f0) ∧ w'.cell? ⟨(ad.add (j * 2)).block, (ad.add (j * 2)).off + 1, none⟩ = some (.int .i64 x.f1)) ∧ (w'.cell? (ad.add ((j + 1) * 2)) = some (.int .i64 y.f0) ∧ w'.cell? ⟨(ad.add ((j + 1) * 2)).block, (ad.add ((j + 1) * 2)).off + 1, none⟩ = some (.int .i64 y.f1)))
          (first | exact ⟨⟨hx0, hx1⟩, hy0, hy1⟩ | exact ⟨⟨pw_cell_below HB2.out hx0, pw_cell_below HB2.out hx1⟩, pw_cell_below HB2.out hy0, pw_cell_below HB2.out hy1⟩ | fail)
          (first | (go_at_call 76; (with_reducible refine (HBe.out _).mono ?_); rintro E w2 ⟨rfl, hb⟩; have HB2 := Aside0.mk (below_then (below_drew (Below.refl wr.heap.size wr)) (below_drew (Below.refl wr.heap.size wr)).size hb); clear hb) | fail)
        go_wp2
        go_ret
        refine ⟨?_, below_then HB.out (HB.out).size HB2.out⟩
        rw [show upN l = false from range_false (i := j) (by omega) (by rw [(HE.out).1, (HE.out).2, HV.out]; exact decide_eq_false (by have := HNG.out; omega))]
        rfl
    · have hltz : ¬ (j : Int) + 1 < (l.length : Int) := by omega
      go_wp2
      go_ret
      refine ⟨?_, HB.out⟩
      rw [show upN l = true from range_true fun i hi => HA.out i (by omega) hi]
      rfl
end Go.Proofs.YtbmcigakiibncaaGreatDoor.H
namespace Go.Proofs.YtbmcigakiibncaaGreatDoor.H
open Go.RowKit Go.Proofs.YtbmcigakiibncaaGreatDoorW.PrintWords Go.Proofs.YtbmcigakiibncaaGreatDoorW.PrintLast Go.Proofs.YtbmcigakiibncaaGreatDoorW.PrintMore
set_option linter.unusedVariables false
theorem add_succ (ad : Addr) (j : Nat) : ad.add (j + 1) = ⟨ad.block, ad.off + (j + 1), none⟩ := by unfold Addr.add; split <;> simp_all
theorem cmpL_nil (b : List Nd) : cmpL [] b = if b.length = 0 then 0 else -1 := by
  cases b with
  | nil => rfl
  | cons y b => rw [if_neg (by simp)]; rfl
theorem cmpL_end (a : List Nd) (h : a ≠ []) : cmpL a [] = 1 := by
  cases a with
  | nil => exact absurd rfl h
  | cons x a => rfl
theorem cmpL_drop {a b : List Nd} {j : Nat} (h1 : j < a.length) (h2 : j < b.length) : cmpL (a.drop j) (b.drop j) = if befI (a.getD j zN) (b.getD j zN) ≠ 0 then befI (a.getD j zN) (b.getD j zN) else cmpL (a.drop (j + 1)) (b.drop (j + 1)) := by
  rw [List.drop_eq_getElem_cons h1, List.drop_eq_getElem_cons h2, List.getD_eq_getElem?_getD, List.getD_eq_getElem?_getD, List.getElem?_eq_getElem h1, List.getElem?_eq_getElem h2]
  rfl
set_option maxHeartbeats 4000000 in
set_option maxRecDepth 100000 in
theorem cmp_calls (a b : List Nd) (A : Option Addr) (ca : Nat) (B : Option Addr) (cb : Nat) (w : World) (hra : Kd.C Q.k83 w A a.length a) (hrb : Kd.C Q.k83 w B b.length b) (ha : a.length ≤ 24) (hxa : ∀ x ∈ a, smallN x) (hxb : ∀ x ∈ b, smallN x) :
    Calls Tryz.prog 109 #[.slice A a.length ca, .slice B b.length cb, .func (.func 76) #[] #[]] w fun e w' => e = .returned (.int .i64 (cmpL a b)) ∧ Below w.heap.size w w' := by
  have HRA := Aside0.mk hra
  have HRB := Aside0.mk hrb
  have HL := Aside0.mk ha
  have HXA := Aside0.mk hxa
  have HXB := Aside0.mk hxb
  clear hra hrb ha hxa hxb
  go_enter Tryz.func109, Tryz.ntmps109
  go_wp2
  go_loopg [13] a.length (fun gg v13 wi => ∃ j : Nat, a.length - j ≤ gg ∧ v13 = .int .i64 j ∧ j ≤ a.length ∧ j ≤ b.length ∧ Aside0 (Below w.heap.size w wi) ∧ Aside0 (cmpL (a.drop j) (b.drop j) = cmpL a b))
  case atStart => exact ⟨0, by omega, rfl, by omega, by omega, ⟨Below.refl _ _⟩, ⟨rfl⟩⟩
  case round =>
    obtain ⟨j, hgg, rfl, hj, hjb, HB, HE⟩ := hrel
    by_cases hlt : j < a.length
    · have hltz : (j : Int) < (a.length : Int) := by omega
      obtain ⟨ad, e, hx0, hx1⟩ := at_need HRA.out j hlt
      subst e
      replace hx0 := pw_cell_below HB.out hx0
      replace hx1 := pw_cell_below HB.out hx1
      have h1 := HXA.out _ (getD_memN hlt)
      by_cases hlb : j < b.length
      · have hlbz : ¬ (j : Int) ≥ (b.length : Int) := by omega
        have hlb2 : (j : Int) < (b.length : Int) := by omega
        obtain ⟨bd, e, hy0, hy1⟩ := at_need HRB.out j hlb
        subst e
        replace hy0 := pw_cell_below HB.out hy0
        replace hy1 := pw_cell_below HB.out hy1
        have h2 := HXB.out _ (getD_memN hlb)
        have hst := cmpL_drop hlt hlb
        rw [HE.out] at hst
        generalize a.getD j zN = x at *
        generalize b.getD j zN = y at *
        have HBe := Aside0.mk fun W : World => before_calls x y h1 h2 W
        clear h1 h2
        generalize befI x y = v at *
        have HST := Aside0.mk hst
        clear hst
        have hal := below_alloc (below_alloc (Below.refl wr.heap.size wr) (.cells #[.int .i64 x.f0, .int .i64 x.f1] 83)) (.cells #[.int .i64 y.f0, .int .i64 y.f1] 83)
        have hz1 := blk_alloc (blk_new wr (.cells #[.int .i64 x.f0, .int .i64 x.f1] 83)) (.cells #[.int .i64 y.f0, .int .i64 y.f1] 83)
        have hz2 := blk_at2 wr (.cells #[.int .i64 x.f0, .int .i64 x.f1] 83) (.cells #[.int .i64 y.f0, .int .i64 y.f1] 83)
        have hy0' := pw_cell_below (below_alloc (Below.refl wr.heap.size wr) (.cells #[.int .i64 x.f0, .int .i64 x.f1] 83)) hy0
        have hy1' := pw_cell_below (below_alloc (Below.refl wr.heap.size wr) (.cells #[.int .i64 x.f0, .int .i64 x.f1] 83)) hy1
        clear hy0 hy1
        have HB2 := Aside0.mk (below_then HB.out (HB.out).size hal)
        clear hal
        go_upto_region 7 with (fail)
        generalize ((wr.alloc (.cells #[.int .i64 x.f0, .int .i64 x.f1] 83)).alloc (.cells #[.int .i64 y.f0, .int .i64 y.f1] 83)) = w5 at *
        have hk0 : w5.cell? ⟨wr.heap.size, 0, none⟩ = some (.int .i64 x.f0) := (blk_cell hz1 0).trans rfl
        have hk1 : w5.cell? ⟨wr.heap.size, 1, none⟩ = some (.int .i64 x.f1) := (blk_cell hz1 1).trans rfl
        have hk2 : w5.cell? ⟨wr.heap.size + 1, 0, none⟩ = some (.int .i64 y.f0) := (blk_cell hz2 0).trans rfl
        have hk3 : w5.cell? ⟨wr.heap.size + 1, 1, none⟩ = some (.int .i64 y.f1) := (blk_cell hz2 1).trans rfl
        clear hz1 hz2 hx0 hx1 hy0' hy1'
        by_cases hv : v = 0
        · subst hv
          have hst2 := HST.out
          rw [if_neg (by simp)] at hst2
          have HST2 := Aside0.mk hst2
          clear hst2 HST
          go_wp2_with fail
          refine (HBe.out _).mono ?_
          rintro E w6 ⟨rfl, hb⟩
          have HB6 := Aside0.mk (below_then HB2.out (HB2.out).size hb)
          clear hb hk0 hk1 hk2 hk3 HB2
          go_wp2
          go_roundg (a.length - (j + 1))
          case measure => omega
          case rel => exact ⟨j + 1, by omega, by rw [wrap_succ (by omega) (by have := HL.out; omega)]; rfl, by omega, by omega, HB6, ⟨HST2.out.symm⟩⟩
        · have d1 : (v == 0) = false := beq_eq_false_iff_ne.2 hv
          have d2 : (v != 0) = true := bne_iff_ne.2 hv
          have hst2 := HST.out
          rw [if_pos hv] at hst2
          have HST2 := Aside0.mk hst2
          clear hst2 HST hv
          go_wp2_with fail
          refine (HBe.out _).mono ?_
          rintro E w6 ⟨rfl, hb⟩
          have HB6 := Aside0.mk (below_then HB2.out (HB2.out).size hb)
          clear hb hk0 hk1 hk2 hk3 HB2
          go_wp2
          go_ret
          exact ⟨by rw [HST2.out]; rfl, HB6.out⟩
      · have hlbz : (j : Int) ≥ (b.length : Int) := by omega
        have hv := HE.out
        rw [show b.drop j = [] from List.drop_eq_nil_of_le (by omega), cmpL_end _ (by intro h; have := congrArg List.length h; rw [List.length_drop, List.length_nil] at this; omega)] at hv
        have HV := Aside0.mk hv
        clear hv h1
        generalize a.getD j zN = x at *
        have hal := below_alloc (Below.refl wr.heap.size wr) (.cells #[.int .i64 x.f0, .int .i64 x.f1] 83)
        have HB2 := Aside0.mk (below_then HB.out (HB.out).size hal)
        clear hal
        go_wp2
        go_ret
        exact ⟨by rw [← HV.out]; rfl, HB2.out⟩
    · have hltz : ¬ (j : Int) < (a.length : Int) := by omega
      have hje : j = a.length := by omega
      have hv := HE.out
      rw [hje, List.drop_length, cmpL_nil, List.length_drop] at hv
      by_cases hab : a.length < b.length
      · have habz : (a.length : Int) < (b.length : Int) := by omega
        rw [if_neg (by omega)] at hv
        have HV := Aside0.mk hv
        clear hv hje
        go_wp2
        go_ret
        exact ⟨by rw [← HV.out]; rfl, HB.out⟩
      · have habz : ¬ (a.length : Int) < (b.length : Int) := by omega
        rw [if_pos (by omega)] at hv
        have HV := Aside0.mk hv
        clear hv hje
        go_wp2
        go_ret
        exact ⟨by rw [← HV.out]; rfl, HB.out⟩
theorem lists_calls (a b : List Nd) (A : Option Addr) (ca : Nat) (B : Option Addr) (cb : Nat) (w : World) (hra : Kd.C Q.k83 w A a.length a) (hrb : Kd.C Q.k83 w B b.length b) (ha : a.length ≤ 24) (hxa : ∀ x ∈ a, smallN x) (hxb : ∀ x ∈ b, smallN x) :
    Calls Tryz.prog 78 #[.slice A a.length ca, .slice B b.length cb] w fun e w' => e = .returned (.int .i64 (cmpL a b)) ∧ Below w.heap.size w w' := by
  have H := Aside0.mk (cmp_calls a b A ca B cb w hra hrb ha hxa hxb)
  clear hra hrb ha hxa hxb
  go_enter Tryz.func78, Tryz.ntmps78
  go_wp2_with fail
  refine (H.out).mono ?_
  rintro E w2 ⟨rfl, hb⟩
  have HB := Aside0.mk hb
  clear hb H
  go_wp2
  go_ret
  exact ⟨rfl, HB.out⟩
set_option maxHeartbeats 4000000 in
theorem risingLG_calls (A : Option Addr) (c : Nat) (l : List (List Nd)) (w : World) (hr : Kd.C kA1 w A l.length l) (hl : l.length ≤ 12) (hx : ∀ y ∈ l, y.length ≤ 24 ∧ ∀ x ∈ y, smallN x) :
    Calls Tryz.prog 77 #[.slice A l.length c, .func (.func 78) #[] #[]] w fun e w' => e = .returned (.bool (upL l)) ∧ Below w.heap.size w w' := by
  have HR := Aside0.mk hr
  have HL := Aside0.mk hl
  have HX := Aside0.mk hx
  clear hr hl hx
  go_enter Tryz.func77, Tryz.ntmps77
  go_wp2
  go_loopg [5] l.length (fun gg v5 wi => ∃ j : Nat, l.length - j ≤ gg ∧ v5 = .int .i64 ((j : Int) + 1) ∧ (j ≤ l.length) ∧ Aside0 (Below w.heap.size w wi) ∧ Aside0 (∀ i, i < j → i < l.length - 1 → decide (cmpL (l.getD i []) (l.getD (i + 1) []) < 0) = true))
  case atStart => exact ⟨0, by omega, by rfl, by omega, ⟨Below.refl _ _⟩, ⟨fun i hi => absurd hi (Nat.not_lt_zero _)⟩⟩
  case round =>
    obtain ⟨j, hgg, rfl, hj, HB, HA⟩ := hrel
    by_cases hlt : j + 1 < l.length
    · have hltz : (j : Int) + 1 < (l.length : Int) := by omega
      have hlt0 : (j : Int) < (l.length : Int) := by omega
      have hwj : IntKind.i64.wrap (j : Int) = (j : Int) := by rw [i64_w]; exact wr_id (by omega) (by have := HL.out; omega)
      have hl24 : (l.length : Int) ≤ 24 := by have := HL.out; omega
      obtain ⟨ad, A1, c1, e, hx0, hl1, hC1⟩ := at_sl HR.out j (by omega)
      subst e
      obtain ⟨ad', A2, c2, e, hy0, hl2, hC2⟩ := at_sl HR.out (j + 1) hlt
      cases e
      replace hx0 := pw_cell_below HB.out hx0
      replace hy0 := pw_cell_below HB.out hy0
      rw [add_succ] at hy0
      have h1 := HX.out _ (getD_memA (k := j) (by omega))
      have h2 := HX.out _ (getD_memA (k := j + 1) hlt)
      generalize hxe : l.getD j [] = x at *
      generalize hye : l.getD (j + 1) [] = y at *
      have HE := Aside0.mk (And.intro hxe hye)
      clear hxe hye
      have HBe := Aside0.mk fun (W : World) (hW : Below w.heap.size w W) => lists_calls x y A1 c1 A2 c2 W (Kd.C_below hC1 hW) (Kd.C_below hC2 hW) h1.1 h1.2 h2.2
      have h0j : (0 : Int) ≤ (j : Int) + 1 := by omega
      clear h1 h2 hC1 hC2 hl1 hl2
      generalize hv : cmpL x y = v at *
      have HV := Aside0.mk hv
      clear hv
      by_cases hneg : v < 0
      · have hnle : ¬ 0 ≤ v := by omega
        have HNG := Aside0.mk hneg
        clear hneg
        go_upto_region 4 with (fail)
        go_region_held3 (fun w' => w'.cell? (ad.add j) = some (.slice A1 x.length c1) ∧ w'.cell? ⟨ad.block, ad.off + (j + 1), none⟩ = some (.slice A2 y.length c2))
          (first | exact ⟨hx0, hy0⟩ | exact ⟨pw_cell_below HB2.out hx0, pw_cell_below HB2.out hy0⟩ | fail)
          (first | (go_at_call 78; (with_reducible refine (HBe.out _ (below_drew1 HB.out)).mono ?_); rintro E w2 ⟨rfl, hb⟩; have HB2 := Aside0.mk (below_then (below_drew (Below.refl wr.heap.size wr)) (below_drew (Below.refl wr.heap.size wr)).size hb); clear hb) | fail)
        go_wp2
        go_roundg (l.length - (j + 1))
        case measure => omega
        case rel =>
          refine ⟨j + 1, by omega, by first | rfl | (rw [wrap_succ (by omega) (by omega)]; rfl), by omega, ⟨below_then HB.out (HB.out).size HB2.out⟩, ⟨fun i hi hi2 => ?_⟩⟩
          by_cases e : i = j
          · subst e
            rw [(HE.out).1, (HE.out).2, HV.out]
            exact decide_eq_true HNG.out
          · exact HA.out i (by omega) hi2
      · have hnle : 0 ≤ v := by omega
        have HNG := Aside0.mk hneg
        clear hneg
        go_upto_region 4 with (fail)
        go_region_held3 (fun w' => w'.cell? (ad.add j) = some (.slice A1 x.length c1) ∧ w'.cell? ⟨ad.block, ad.off + (j + 1), none⟩ = some (.slice A2 y.length c2))
          (first | exact ⟨hx0, hy0⟩ | exact ⟨pw_cell_below HB2.out hx0, pw_cell_below HB2.out hy0⟩ | fail)
          (first | (go_at_call 78; (with_reducible refine (HBe.out _ (below_drew1 HB.out)).mono ?_); rintro E w2 ⟨rfl, hb⟩; have HB2 := Aside0.mk (below_then (below_drew (Below.refl wr.heap.size wr)) (below_drew (Below.refl wr.heap.size wr)).size hb); clear hb) | fail)
        go_wp2
        go_ret
        refine ⟨?_, below_then HB.out (HB.out).size HB2.out⟩
        rw [show upL l = false from range_false (i := j) (by omega) (by rw [(HE.out).1, (HE.out).2, HV.out]; exact decide_eq_false (by have := HNG.out; omega))]
        rfl
    · have hltz : ¬ (j : Int) + 1 < (l.length : Int) := by omega
      go_wp2
      go_ret
      refine ⟨?_, HB.out⟩
      rw [show upL l = true from range_true fun i hi => HA.out i (by omega) hi]
      rfl
end Go.Proofs.YtbmcigakiibncaaGreatDoor.H
namespace Go.Proofs.YtbmcigakiibncaaGreatDoor.H
open Go.RowKit Go.Proofs.YtbmcigakiibncaaGreatDoorW.PrintWords Go.Proofs.YtbmcigakiibncaaGreatDoorW.PrintLast Go.Proofs.YtbmcigakiibncaaGreatDoorW.PrintMore
set_option linter.unusedVariables false
theorem all_false {α : Type} {p : α → Bool} {l : List α} {x : α} (hx : x ∈ l) (h : p x = false) : l.all p = false := by
  cases e : l.all p with
  | false => rfl
  | true => rw [List.all_eq_true.1 e x hx] at h; cases h
def chkA (rk : List Int) (st : Int) (M : Mv) : Int := if auB rk st M then 0 else 10
theorem chk_false {rk : List Int} {st : Int} {M : Mv} (h : auB rk st M = false) : chkA rk st M = 10 := by unfold chkA; rw [h]; rfl
theorem chk_true {rk : List Int} {st : Int} {M : Mv} (h : auB rk st M = true) : chkA rk st M = 0 := by unfold chkA; rw [h]; rfl
theorem auB_row {rk : List Int} {st : Int} {M : Mv} {q : Nat} (hq : q < M.length) (h : mrowOk rk (M.length : Int) (M.getD q []) = false) : auB rk st M = false := by
  unfold auB
  rw [all_false (getD_memA hq) h, Bool.and_false]
theorem mrow_alts {rk : List Int} {n : Int} {row : List (List (List Nd))} {f : Nat} (hf : f < rk.length) (h : altsOk (rd rk (f : Int)) n (row.getD f []) = false) : mrowOk rk n row = false := by
  unfold mrowOk
  rw [range_false hf h, Bool.and_false]
theorem alts_list {r n : Int} {l : List (List Nd)} {j : Nat} (hj : j < l.length) (h : listOk r n (l.getD j []) = false) : altsOk r n l = false := by
  unfold altsOk
  rw [all_false (getD_memA hj) h, Bool.and_false, Bool.false_and]
theorem all_getD {α : Type} {p : List α → Bool} {l : List (List α)} (h : ∀ i, i < l.length → p (l.getD i []) = true) : l.all p = true := by
  refine List.all_eq_true.2 fun x hx => ?_
  obtain ⟨j, hj, rfl⟩ := List.getElem_of_mem hx
  have h2 := h j hj
  rwa [List.getD_eq_getElem?_getD, List.getElem?_eq_getElem hj] at h2
theorem small_of {r n : Int} {l : List Nd} (hr : r ≤ 4) (hn : n ≤ 6) (h : l.any (nbad r n) = false) : ∀ x ∈ l, smallN x := by
  intro x hx
  have h1 := List.any_eq_false.1 h x hx
  unfold nbad at h1
  simp only [Bool.or_eq_true, decide_eq_true_eq, not_or] at h1
  exact ⟨by omega, by omega, by omega, by omega⟩
set_option maxHeartbeats 8000000 in
set_option maxRecDepth 100000 in
theorem acheckG_calls (rk : List Int) (M : Mv) (st : Int) (A1 : Option Addr) (c1 : Nat) (A2 : Option Addr) (c2 : Nat) (w : World)
    (hr : Kd.C (Kd.int .i64) w A1 rk.length rk) (hc1 : rk.length ≤ c1) (hM : Kd.C kA3 w A2 M.length M) :
    Calls Tryz.prog 30 #[.agg #[.slice A1 rk.length c1, .int .i64 st, .slice A2 M.length c2]] w fun e w' => e = .returned (.int .i64 (chkA rk st M)) ∧ Below w.heap.size w w' := by
  have hmf := run_mkfun
  have HR := Aside0.mk hr
  have HM := Aside0.mk hM
  have HRA := Aside0.mk fun W (hW : Below w.heap.size w W) => ranks_calls A1 c1 rk W (Kd.C_below hr hW) hc1
  have ha := below_alloc (below_alloc (Below.refl w.heap.size w) (.cells #[.slice A1 rk.length c1, .int .i64 st, .slice A2 M.length c2] 25)) (.cells #[.int .i64 (M.length : Int)] 3)
  have hb1 := blk_alloc (blk_new w (.cells #[.slice A1 rk.length c1, .int .i64 st, .slice A2 M.length c2] 25)) (.cells #[.int .i64 (M.length : Int)] 3)
  have hb2 := blk_at2 w (.cells #[.slice A1 rk.length c1, .int .i64 st, .slice A2 M.length c2] 25) (.cells #[.int .i64 (M.length : Int)] 3)
  have HB := Aside0.mk ha
  have HB1 := Aside0.mk hb1
  have HB2 := Aside0.mk hb2
  have hk0 : (w.alloc (.cells #[.slice A1 rk.length c1, .int .i64 st, .slice A2 M.length c2] 25)).cell? ⟨w.heap.size, 2, none⟩ = some (.slice A2 M.length c2) := (blk_cell (blk_new w (.cells #[.slice A1 rk.length c1, .int .i64 st, .slice A2 M.length c2] 25)) 2).trans rfl
  clear hr hc1 hM ha hb1 hb2
  go_enter Tryz.func30, Tryz.ntmps30
  go_upto_region 2 with (fail)
  generalize ((w.alloc (.cells #[.slice A1 rk.length c1, .int .i64 st, .slice A2 M.length c2] 25)).alloc (.cells #[.int .i64 (M.length : Int)] 3)) = W1 at *
  clear hk0
  have hk0 : W1.cell? ⟨w.heap.size, 0, none⟩ = some (.slice A1 rk.length c1) := (blk_cell HB1.out 0).trans rfl
  have hk1 : W1.cell? ⟨w.heap.size, 1, none⟩ = some (.int .i64 st) := (blk_cell HB1.out 1).trans rfl
  have hk2 : W1.cell? ⟨w.heap.size + 1, 0, none⟩ = some (.int .i64 (M.length : Int)) := (blk_cell HB2.out 0).trans rfl
  go_wp2_with fail
  refine (HRA.out _ HB.out).mono ?_
  rintro E w2 ⟨rfl, hb⟩
  have n0_ := Aside0.mk (below_then HB.out (HB.out).size hb)
  have n1_ := Aside0.mk (blk_below HB1.out hb)
  have n2_ := Aside0.mk (blk_below HB2.out hb)
  clear HB HB1 HB2 hb hk0 hk1 hk2 HRA
  have hk0 : w2.cell? ⟨w.heap.size, 0, none⟩ = some (.slice A1 rk.length c1) := (blk_cell n1_.out 0).trans rfl
  have hk1 : w2.cell? ⟨w.heap.size, 1, none⟩ = some (.int .i64 st) := (blk_cell n1_.out 1).trans rfl
  have hk2 : w2.cell? ⟨w.heap.size + 1, 0, none⟩ = some (.int .i64 (M.length : Int)) := (blk_cell n2_.out 0).trans rfl
  have hk3 : w2.cell? ⟨w.heap.size, 2, none⟩ = some (.slice A2 M.length c2) := (blk_cell n1_.out 2).trans rfl
  cases hrk : ranksB rk with
  | false =>
    have HF := Aside0.mk (show auB rk st M = false by unfold auB; rw [hrk]; rfl)
    clear hrk
    go_wp2
    go_ret
    exact ⟨by rw [chk_false HF.out]; rfl, n0_.out⟩
  | true =>
  have HRK := Aside0.mk hrk
  clear hrk
  cases q1 : decide ((M.length : Int) < 1) with
  | true =>
    have HF := Aside0.mk (show auB rk st M = false by have := of_decide_eq_true q1; unfold auB; rw [decide_eq_false (by omega : ¬ 1 ≤ M.length)]; simp)
    go_wp2
    go_ret
    exact ⟨by rw [chk_false HF.out]; rfl, n0_.out⟩
  | false =>
  cases q2 : decide ((M.length : Int) > 6) with
  | true =>
    have HF := Aside0.mk (show auB rk st M = false by have := of_decide_eq_true q2; unfold auB; rw [decide_eq_false (by omega : ¬ M.length ≤ 6)]; simp)
    go_wp2
    go_ret
    exact ⟨by rw [chk_false HF.out]; rfl, n0_.out⟩
  | false =>
  cases q3 : decide (st < 0) with
  | true =>
    have HF := Aside0.mk (show auB rk st M = false by have := of_decide_eq_true q3; unfold auB; rw [decide_eq_false (by omega : ¬ 0 ≤ st)]; simp)
    go_wp2
    go_ret
    exact ⟨by rw [chk_false HF.out]; rfl, n0_.out⟩
  | false =>
  cases q4 : decide (st ≥ (M.length : Int)) with
  | true =>
    have HF := Aside0.mk (show auB rk st M = false by have := of_decide_eq_true q4; unfold auB; rw [decide_eq_false (by omega : ¬ st < (M.length : Int))]; simp)
    go_wp2
    go_ret
    exact ⟨by rw [chk_false HF.out]; rfl, n0_.out⟩
  | false =>
  have HN := Aside0.mk (show 1 ≤ M.length ∧ M.length ≤ 6 ∧ 0 ≤ st ∧ st < (M.length : Int) from by have := of_decide_eq_false q1; have := of_decide_eq_false q2; have := of_decide_eq_false q3; have := of_decide_eq_false q4; omega)
  go_wp2
  clear hk0 hk1 hk2 hk3 q1 q2 q3 q4
  go_loopg [40] M.length (fun gg v40 wi => ∃ q : Nat, q ≤ M.length ∧ M.length - q ≤ gg ∧ v40 = .int .i64 q ∧ Aside0 (Below w.heap.size w wi) ∧ Aside0 (wi.heap[w.heap.size]? = some (.cells #[.slice A1 rk.length c1, .int .i64 st, .slice A2 M.length c2] 25 (0, 0))) ∧ Aside0 (wi.heap[w.heap.size + 1]? = some (.cells #[.int .i64 (M.length : Int)] 3 (0, 0))) ∧ Aside0 (∀ i, i < q → mrowOk rk (M.length : Int) (M.getD i []) = true))
  case atStart => exact ⟨0, by omega, by omega, rfl, n0_, n1_, n2_, ⟨fun i hi => absurd hi (Nat.not_lt_zero _)⟩⟩
  case round =>
    clear n0_ n1_ n2_
    obtain ⟨q, hq, hgg, rfl, HB, HB1, HB2, HP⟩ := hrel
    by_cases hlt : q < M.length
    · have hltz : (q : Int) < (M.length : Int) := by omega
      obtain ⟨ad, A3, c3, e, hx1, hl3, hC3⟩ := at_sl HM.out q hlt
      subst e
      replace hx1 := pw_cell_below (HB.out) hx1
      have HROW := Aside0.mk (show mrowOk rk (M.length : Int) (M.getD q []) = false → auB rk st M = false from fun h => auB_row hlt h)
      have hk0 : wr.cell? ⟨w.heap.size, 0, none⟩ = some (.slice A1 rk.length c1) := (blk_cell HB1.out 0).trans rfl
      clear hl3
      generalize hrw : M.getD q [] = row at *
      have HRW := Aside0.mk hrw
      clear hrw
      by_cases hrow : row.length = rk.length
      · have HRL := Aside0.mk hrow
        rw [hrow] at hx1 hC3
        have HC3 := Aside0.mk hC3
        clear hC3 hrow
        go_wp2
        clear hk0 hx1
        go_loopg [52] rk.length (fun gg2 v52 wi => ∃ f : Nat, f ≤ rk.length ∧ rk.length - f ≤ gg2 ∧ v52 = .int .i64 f ∧ Aside0 (Below w.heap.size w wi) ∧ Aside0 (wi.heap[w.heap.size]? = some (.cells #[.slice A1 rk.length c1, .int .i64 st, .slice (some ad) M.length c2] 25 (0, 0))) ∧ Aside0 (wi.heap[w.heap.size + 1]? = some (.cells #[.int .i64 (M.length : Int)] 3 (0, 0))) ∧ Aside0 (∀ i, i < f → altsOk (rd rk (i : Int)) (M.length : Int) (row.getD i []) = true))
        case atStart => exact ⟨0, by omega, by omega, rfl, HB, HB1, HB2, ⟨fun i hi => absurd hi (Nat.not_lt_zero _)⟩⟩
        case round =>
          clear HB HB1 HB2
          obtain ⟨f, hf, hgg2, rfl, HB, HB1, HB2, HPF⟩ := hrel
          by_cases hft : f < rk.length
          · have hftz : (f : Int) < (rk.length : Int) := by omega
            obtain ⟨ad4, A4, c4, e, hx2, hl4, hC4⟩ := at_sl HC3.out f hft
            subst e
            replace hx2 := pw_cell_below (HB.out) hx2
            have HC4 := Aside0.mk hC4
            have HALT := Aside0.mk (show altsOk (rd rk (f : Int)) (M.length : Int) (row.getD f []) = false → auB rk st M = false from fun h => (HROW.out) (mrow_alts hft h))
            have HRKF := Aside0.mk (rank_le HRK.out hft)
            clear hC4 hl4
            generalize hal : row.getD f [] = alts at *
            have HAL := Aside0.mk hal
            clear hal
            have ha := below_alloc (Below.refl wr.heap.size wr) (.cells #[.int .i64 (f : Int)] 3)
            have n0_ := Aside0.mk (below_then HB.out (HB.out).size ha)
            have n1_ := Aside0.mk (blk_below HB1.out ha)
            have n2_ := Aside0.mk (blk_below HB2.out ha)
            have n3_ := Aside0.mk (blk_new wr (.cells #[.int .i64 (f : Int)] 3))
            clear ha HB HB1 HB2
            go_upto_region 12 with (fail)
            clear hx2
            generalize (wr.alloc (.cells #[.int .i64 (f : Int)] 3)) = w5 at *
            generalize wr.heap.size = b6 at *
            by_cases h12 : (alts.length : Int) > 12
            · have HF := Aside0.mk (HALT.out (by unfold altsOk; rw [decide_eq_false (by omega : ¬ alts.length ≤ 12)]; rfl))
              go_wp2
              go_ret
              exact ⟨by rw [chk_false HF.out]; rfl, n0_.out⟩
            have H12 := Aside0.mk (show alts.length ≤ 12 by omega)
            go_wp2
            clear h12
            go_loopg [62] alts.length (fun gg3 v62 wi => ∃ j : Nat, j ≤ alts.length ∧ alts.length - j ≤ gg3 ∧ v62 = .int .i64 j ∧ Aside0 (Below w.heap.size w wi) ∧ Aside0 (wi.heap[w.heap.size]? = some (.cells #[.slice A1 rk.length c1, .int .i64 st, .slice (some ad) M.length c2] 25 (0, 0))) ∧ Aside0 (wi.heap[w.heap.size + 1]? = some (.cells #[.int .i64 (M.length : Int)] 3 (0, 0))) ∧ Aside0 (wi.heap[b6]? = some (.cells #[.int .i64 (f : Int)] 3 (0, 0))) ∧ Aside0 (∀ i, i < j → listOk (rd rk (f : Int)) (M.length : Int) (alts.getD i []) = true))
            case atStart => exact ⟨0, by omega, by omega, rfl, n0_, n1_, n2_, n3_, ⟨fun i hi => absurd hi (Nat.not_lt_zero _)⟩⟩
            case round =>
              clear n0_ n1_ n2_ n3_
              obtain ⟨j, hj, hgg3, rfl, HB, HB1, HB2, HB3, HPJ⟩ := hrel
              by_cases hjt : j < alts.length
              · have hjtz : (j : Int) < (alts.length : Int) := by omega
                obtain ⟨ad5, A5, c5, e, hx5, hl5, hC5⟩ := at_sl HC4.out j hjt
                subst e
                replace hx5 := pw_cell_below (HB.out) hx5
                have HLST := Aside0.mk (show listOk (rd rk (f : Int)) (M.length : Int) (alts.getD j []) = false → auB rk st M = false from fun h => (HALT.out) (alts_list hjt h))
                generalize hle : alts.getD j [] = l at *
                have HLE := Aside0.mk hle
                clear hle hl5
                cases q5 : decide ((l.length : Int) > 24) with
                | true =>
                  have HF := Aside0.mk (HLST.out (by have := of_decide_eq_true q5; unfold listOk; rw [decide_eq_false (by omega : ¬ l.length ≤ 24)]; rfl))
                  clear hC5
                  go_wp2
                  go_ret
                  exact ⟨by rw [chk_false HF.out]; rfl, HB.out⟩
                | false =>
                have H24 := Aside0.mk (show l.length ≤ 24 by have := of_decide_eq_false q5; omega)
                have HCN := Aside0.mk (containsN_calls A5 c5 l 73 #[.pointer (some ⟨w.heap.size, 0, none⟩), .pointer (some ⟨b6, 0, none⟩), .pointer (some ⟨w.heap.size + 1, 0, none⟩)] (fun _ => True) (nbad (rd rk (f : Int)) (M.length : Int)) wr (Kd.C_below hC5 HB.out) (fun _ _ => trivial) (badG_pred f M.length w.heap.size b6 (w.heap.size + 1) rk A1 c1 (.int .i64 st) (.slice (some ad) M.length c2) wr HB1.out HB3.out HB2.out (Kd.C_below HR.out HB.out) hft) (fun _ _ => rfl))
                cases hany : l.any (nbad (rd rk (f : Int)) (M.length : Int)) with
                | true =>
                  rw [hany] at HCN
                  have HF := Aside0.mk (HLST.out (by unfold listOk; rw [hany]; simp))
                  clear hC5 hany
                  go_wp2_with fail
                  refine (HCN.out).mono ?_
                  rintro E w6 ⟨rfl, hb⟩
                  have n0_ := Aside0.mk (below_then HB.out (HB.out).size hb)
                  clear hb HCN hx5
                  go_wp2
                  go_ret
                  exact ⟨by rw [chk_false HF.out]; rfl, n0_.out⟩
                | false =>
                rw [hany] at HCN
                have hsm := small_of (l := l) (show rd rk (f : Int) ≤ 4 from (HRKF.out).2) (show (M.length : Int) ≤ 6 by have := HN.out; omega) hany
                have HRI := Aside0.mk fun W (hW : Below w.heap.size w W) => risingG_calls A5 c5 l W (Kd.C_below hC5 hW) H24.out hsm
                have HAN := Aside0.mk hany
                clear hC5 hany hsm
                go_wp2_with fail
                refine (HCN.out).mono ?_
                rintro E w6 ⟨rfl, hb⟩
                have n0_ := Aside0.mk (below_then HB.out (HB.out).size hb)
                have n1_ := Aside0.mk (blk_below HB1.out hb)
                have n2_ := Aside0.mk (blk_below HB2.out hb)
                have n3_ := Aside0.mk (blk_below HB3.out hb)
                clear HB HB1 HB2 HB3 hb HCN hx5
                go_wp2_with fail
                refine (HRI.out _ n0_.out).mono ?_
                rintro E w7 ⟨rfl, hb⟩
                have HB := Aside0.mk (below_then n0_.out (n0_.out).size hb)
                have HB1 := Aside0.mk (blk_below n1_.out hb)
                have HB2 := Aside0.mk (blk_below n2_.out hb)
                have HB3 := Aside0.mk (blk_below n3_.out hb)
                clear n0_ n1_ n2_ n3_ hb HRI q5
                cases hup : upN l with
                | false =>
                  have HF := Aside0.mk (HLST.out (by unfold listOk; rw [hup, Bool.and_false]))
                  clear hup
                  go_wp2
                  go_ret
                  exact ⟨by rw [chk_false HF.out]; rfl, HB.out⟩
                | true =>
                  have HOK := Aside0.mk (show listOk (rd rk (f : Int)) (M.length : Int) l = true by unfold listOk; rw [decide_eq_true H24.out, HAN.out, hup]; rfl)
                  clear hup
                  go_wp2
                  go_roundg (alts.length - (j + 1))
                  case measure => omega
                  case rel =>
                    refine ⟨j + 1, by omega, by omega, by rw [wrap_succ (by omega) (by have := H12.out; omega)]; rfl, HB, HB1, HB2, HB3, ⟨fun i hi => ?_⟩⟩
                    by_cases e : i = j
                    · subst e
                      rw [HLE.out]; exact HOK.out
                    · exact HPJ.out i (by omega)
              · have hjtz : ¬ (j : Int) < (alts.length : Int) := by omega
                have HLA := Aside0.mk (show ∀ i, i < alts.length → listOk (rd rk (f : Int)) (M.length : Int) (alts.getD i []) = true from fun i hi => HPJ.out i (by omega))
                have HALL := Aside0.mk (show alts.all (listOk (rd rk (f : Int)) (M.length : Int)) = true from all_getD HLA.out)
                have HSM := Aside0.mk (show ∀ y ∈ alts, y.length ≤ 24 ∧ ∀ x ∈ y, smallN x from fun y hy => by
                  have h := List.all_eq_true.1 HALL.out y hy
                  unfold listOk at h
                  simp only [Bool.and_eq_true, decide_eq_true_eq, Bool.not_eq_true'] at h
                  exact ⟨h.1.1, small_of (show rd rk (f : Int) ≤ 4 from (HRKF.out).2) (show (M.length : Int) ≤ 6 by have := HN.out; omega) h.1.2⟩)
                have HRL2 := Aside0.mk fun W (hW : Below w.heap.size w W) => risingLG_calls A4 c4 alts W (Kd.C_below HC4.out hW) H12.out HSM.out
                go_wp2_with fail
                refine (HRL2.out _ HB.out).mono ?_
                rintro E w7 ⟨rfl, hb⟩
                have n0_ := Aside0.mk (below_then HB.out (HB.out).size hb)
                have n1_ := Aside0.mk (blk_below HB1.out hb)
                have n2_ := Aside0.mk (blk_below HB2.out hb)
                clear HB HB1 HB2 HB3 hb HRL2
                cases hup : upL alts with
                | false =>
                  have HF := Aside0.mk (HALT.out (by unfold altsOk; rw [hup, Bool.and_false]))
                  clear hup
                  go_wp2
                  go_ret
                  exact ⟨by rw [chk_false HF.out]; rfl, n0_.out⟩
                | true =>
                  have HOK := Aside0.mk (show altsOk (rd rk (f : Int)) (M.length : Int) alts = true by unfold altsOk; rw [decide_eq_true H12.out, HALL.out, hup]; rfl)
                  clear hup
                  go_wp2
                  go_roundg (rk.length - (f + 1))
                  case measure => omega
                  case rel =>
                    refine ⟨f + 1, by omega, by omega, by rw [wrap_succ (by omega) (by have := (HR.out).2.1; omega)]; rfl, n0_, n1_, n2_, ⟨fun i hi => ?_⟩⟩
                    by_cases e : i = f
                    · subst e
                      rw [HAL.out]; exact HOK.out
                    · exact HPF.out i (by omega)
          · have hftz : ¬ (f : Int) < (rk.length : Int) := by omega
            have HOK := Aside0.mk (show mrowOk rk (M.length : Int) row = true by unfold mrowOk; rw [decide_eq_true HRL.out, range_true fun i hi => HPF.out i (by omega)]; rfl)
            go_wp2
            go_roundg (M.length - (q + 1))
            case measure => omega
            case rel =>
              refine ⟨q + 1, by omega, by omega, by rw [wrap_succ (by omega) (by have := HN.out; omega)]; rfl, HB, HB1, HB2, ⟨fun i hi => ?_⟩⟩
              by_cases e : i = q
              · subst e
                rw [HRW.out]; exact HOK.out
              · exact HP.out i (by omega)
      · have d1 : ((row.length : Int) == (rk.length : Int)) = false := beq_eq_false_iff_ne.2 (by omega)
        have d2 : ((row.length : Int) != (rk.length : Int)) = true := bne_iff_ne.2 (by omega)
        have HF := Aside0.mk (HROW.out (by unfold mrowOk; rw [decide_eq_false hrow]; rfl))
        clear hC3 hrow
        go_wp2
        go_ret
        exact ⟨by rw [chk_false HF.out]; rfl, HB.out⟩
    · have hltz : ¬ (q : Int) < (M.length : Int) := by omega
      have HT := Aside0.mk (show auB rk st M = true by
        have := HN.out
        unfold auB
        rw [HRK.out, decide_eq_true (by omega : 1 ≤ M.length), decide_eq_true (by omega : M.length ≤ 6), decide_eq_true (by omega : 0 ≤ st), decide_eq_true (by omega : st < (M.length : Int)), all_getD fun i hi => HP.out i (by omega)]
        rfl)
      go_wp2
      go_ret
      exact ⟨by rw [chk_true HT.out]; rfl, HB.out⟩
end Go.Proofs.YtbmcigakiibncaaGreatDoor.H
namespace Go.Proofs.YtbmcigakiibncaaGreatDoor.H
open Go.RowKit Go.Proofs.YtbmcigakiibncaaGreatDoorW.PrintWords Go.Proofs.YtbmcigakiibncaaGreatDoorW.PrintLast Go.Proofs.YtbmcigakiibncaaGreatDoorW.PrintMore
open Go.Proofs.YtbmcigakiibncaaGreatDoor.Q (S28 k28 rd_T28 z28 at_T28)
attribute [local go_sem] max2_int min2_int max_two min_two max_three min_three max_four min_four
set_option linter.unusedVariables false
def MeasG (t : S28) (p : Nat) (left : Int) (W : World) (E : Ending) (W' : World) : Prop := ∃ d lv : Int, E = .returned (.int .i64 d) ∧ W'.heap[p]? = some (.cells #[.int .i64 lv] 3 (0, 0)) ∧ ((nodes t : Int) ≤ left → d = (depth t : Int) ∧ lv = left - nodes t) ∧ (¬ (nodes t : Int) ≤ left → lv < 0) ∧ -1 ≤ lv ∧ W.grownBy W' (some p)
set_option maxHeartbeats 4000000 in
set_option maxRecDepth 100000 in
theorem measureG_calls (w0 : World) (p : Nat) (hp : w0.heap.size ≤ p) (N : Nat) : ∀ (t : S28), nodes t ≤ N → ∀ (A : Option Addr) (c : Nat) (left : Int) (W : World), Kd.C k28 w0 A t.f1.length t.f1 → t.f1.length ≤ c → Below w0.heap.size w0 W → W.heap[p]? = some (.cells #[.int .i64 left] 3 (0, 0)) → 0 ≤ left → left ≤ 20000 →
    Calls Tryz.prog 130 #[.agg #[.int .i64 t.f0, .slice A t.f1.length c], .pointer (some ⟨p, 0, none⟩)] W (MeasG t p left W) := by
  induction N with
  | zero => intro t h; have := nodes_pos t; omega
  | succ N ih =>
    intro t hN A c left W hC hc hB hP hl0 hl2
    obtain ⟨s, l⟩ := t
    rw [nodes] at hN
    have hpW := blk_lt hP
    have HLEN := Aside0.mk hC.2.1
    have HC := Aside0.mk hC
    have IH := Aside0.mk ih
    have HG1 := Aside0.mk (World.grownBy_alloc W (.cells #[.int .i64 s, .slice A l.length c] 28) (some p))
    have HP1 := Aside0.mk (blk_alloc hP (.cells #[.int .i64 s, .slice A l.length c] 28))
    have HX1 := Aside0.mk (blk_new W (.cells #[.int .i64 s, .slice A l.length c] 28))
    have HB0 := Aside0.mk hB
    have HD := Aside0.mk (show nodesL l ≤ N ∧ 0 ≤ left ∧ left ≤ 20000 from ⟨by omega, hl0, hl2⟩)
    have hq0 : (W.alloc (.cells #[.int .i64 s, .slice A l.length c] 28)).cell? ⟨p, 0, none⟩ = some (.int .i64 left) := (blk_cell HP1.out 0).trans rfl
    have hq1 : (W.alloc (.cells #[.int .i64 s, .slice A l.length c] 28)).frozen? ⟨p, 0, none⟩ = false := blk_frozen HP1.out 0
    clear hC ih hP hB hN hl0 hl2
    go_enter Tryz.func130, Tryz.ntmps130
    go_upto_region 1 with (fail)
    generalize (W.alloc (.cells #[.int .i64 s, .slice A l.length c] 28)) = W1 at *
    go_upto_region 2 with (fail)
    rw [wr_id (x := left - 1) (by have := HD.out; omega) (by have := HD.out; omega)]
    have hnp : W.heap.size ≠ p := by omega
    have HG2 := Aside0.mk (gtrans HG1.out (grown_setCell W1 ⟨p, 0, none⟩ (.int .i64 (left - 1))))
    have HP2 := Aside0.mk (show (W1.setCell ⟨p, 0, none⟩ (.int .i64 (left - 1))).heap[p]? = some (.cells #[.int .i64 (left - 1)] 3 (0, 0)) from blk_set HP1.out 0 (.int .i64 (left - 1)))
    have HX2 := Aside0.mk (blk_far (p := ⟨p, 0, none⟩) HX1.out hnp (.int .i64 (left - 1)))
    clear hq0 hq1 HG1 HP1 HX1
    generalize (W1.setCell ⟨p, 0, none⟩ (.int .i64 (left - 1))) = W2 at *
    have hb0 : W2.cell? ⟨W.heap.size, 0, none⟩ = some (.int .i64 s) := (blk_cell HX2.out 0).trans rfl
    have hb1 : W2.cell? ⟨W.heap.size, 1, none⟩ = some (.slice A l.length c) := (blk_cell HX2.out 1).trans rfl
    go_wp2
    clear hb0 hb1
    go_loopg [5, 16] l.length (fun gg v5 v16 wi => ∃ (m lv : Int) (j : Nat), j ≤ l.length ∧ l.length - j ≤ gg ∧ v5 = .int .i64 m ∧ v16 = .int .i64 j ∧ Aside0 (W.grownBy wi (some p)) ∧ Aside0 (wi.heap[p]? = some (.cells #[.int .i64 lv] 3 (0, 0))) ∧
      Aside0 ((1 + (nodesL (l.take j) : Int) ≤ left → m = (depthL (l.take j) : Int) ∧ lv = left - 1 - nodesL (l.take j)) ∧ (¬ 1 + (nodesL (l.take j) : Int) ≤ left → lv < 0) ∧ -1 ≤ lv ∧ lv ≤ 20000))
    case atStart => exact ⟨0, left - 1, 0, by omega, by omega, rfl, rfl, HG2, HP2, ⟨fun _ => ⟨by rw [List.take_zero, depthL]; rfl, by rw [List.take_zero, nodesL]; simp⟩, fun h => by rw [List.take_zero, nodesL] at h; simp at h; omega, by have := HD.out; omega, by have := HD.out; omega⟩⟩
    case round =>
      clear HG2 HP2 HX2
      obtain ⟨m, lv, j, hj, hgg, rfl, rfl, HG, HP, HM⟩ := hrel
      by_cases hlt : j < l.length
      · have hltz : (j : Int) < (l.length : Int) := by omega
        have HBr := Aside0.mk (pw_below_grown HB0.out (some p) (HB0.out).size HG.out (fun k hk => by cases hk; exact hp))
        obtain ⟨ad, A1, c1, e, hx0, hx1, hl1, hC1⟩ := at_T28 HC.out (j : Int) (by omega) hltz
        subst e
        rw [rdT_at hlt] at hx0 hx1 hl1 hC1
        rw [Int.toNat_natCast] at hx0 hx1
        replace hx0 := ((HBr.out).cell (World.block_lt_of_cell? w0 _ hx0)).trans hx0
        replace hx1 := ((HBr.out).cell (World.block_lt_of_cell? w0 _ hx1)).trans hx1
        have HJ := Aside0.mk (show nodesL (l.take (j + 1)) = nodesL (l.take j) + nodes l[j] ∧ depthL (l.take (j + 1)) = max (depthL (l.take j)) (depth l[j]) ∧ nodesL (l.take (j + 1)) ≤ nodesL l ∧ nodesL (l.take j) ≤ nodesL l ∧ 1 ≤ nodes l[j] from ⟨by rw [takeT hlt, nodesL_snoc], by rw [takeT hlt, depthL_snoc], nodesL_take l _, nodesL_take l _, nodes_pos _⟩)
        generalize l[j] = u at *
        have HC1 := Aside0.mk hC1
        have HL1 := Aside0.mk hl1
        clear hC1 hl1
        go_upto_region 6 with (fail)
        have HG5 := Aside0.mk (gtrans HG.out (World.grownBy_alloc wr (.cells #[.int .i64 u.f0, .slice A1 u.f1.length c1] 28) (some p)))
        have HP5 := Aside0.mk (blk_alloc HP.out (.cells #[.int .i64 u.f0, .slice A1 u.f1.length c1] 28))
        have HX5 := Aside0.mk (blk_new wr (.cells #[.int .i64 u.f0, .slice A1 u.f1.length c1] 28))
        clear HG HP hx0 hx1
        generalize (wr.alloc (.cells #[.int .i64 u.f0, .slice A1 u.f1.length c1] 28)) = w5 at *
        generalize wr.heap.size = b7 at *
        have hb0 : w5.cell? ⟨b7, 0, none⟩ = some (.int .i64 u.f0) := (blk_cell HX5.out 0).trans rfl
        have hb1 : w5.cell? ⟨b7, 1, none⟩ = some (.slice A1 u.f1.length c1) := (blk_cell HX5.out 1).trans rfl
        have hq0 : w5.cell? ⟨p, 0, none⟩ = some (.int .i64 lv) := (blk_cell HP5.out 0).trans rfl
        have HB5 := Aside0.mk (pw_below_grown HB0.out (some p) (HB0.out).size HG5.out (fun k hk => by cases hk; exact hp))
        by_cases hneg : lv < 0
        · have HNG := Aside0.mk hneg
          go_wp2
          go_ret
          refine ⟨0, lv, rfl, HP5.out, fun h => ?_, fun _ => HNG.out, (HM.out).2.2.1, HG5.out⟩
          rw [nodes] at h
          have := HNG.out
          have h1 := HM.out
          have h2 := HJ.out
          exact absurd (h1.1 (by omega)).2 (by omega)
        · have HNG := Aside0.mk hneg
          go_wp2_with fail
          refine (IH.out u (by have := HD.out; have := HJ.out; omega) A1 c1 lv w5 HC1.out HL1.out HB5.out HP5.out (by have := HNG.out; omega) (HM.out).2.2.2).mono ?_
          rintro E w6 ⟨d, lv2, rfl, hP6, hx1, hx2, hx3, hG6⟩
          have HP6 := Aside0.mk hP6
          have HG6 := Aside0.mk (gtrans HG5.out hG6)
          have HXX := Aside0.mk (And.intro hx1 (And.intro hx2 hx3))
          clear hP6 hG6 hb0 hb1 hq0 HP5 HG5 HX5 HB5 hx1 hx2 hx3 hneg
          have HR := Aside0.mk (show ∀ v : Int, v = (if m < d then d else m) → (1 + (nodesL (l.take (j + 1)) : Int) ≤ left → v = (depthL (l.take (j + 1)) : Int) ∧ lv2 = left - 1 - nodesL (l.take (j + 1))) ∧ (¬ 1 + (nodesL (l.take (j + 1)) : Int) ≤ left → lv2 < 0) ∧ -1 ≤ lv2 ∧ lv2 ≤ 20000 from fun v hv => by
            obtain ⟨x1, x2, x3⟩ := HXX.out
            obtain ⟨y1, y2, y3, y4⟩ := HM.out
            obtain ⟨z1, z2, z3, z4, z5⟩ := HJ.out
            have hn := HNG.out
            have hd := HD.out
            have hex : 1 + (nodesL (l.take j) : Int) ≤ left := Classical.byContradiction fun h => by have := y2 (by omega); omega
            obtain ⟨e1, e2⟩ := y1 hex
            refine ⟨fun h => ?_, fun h => x2 (by omega), x3, ?_⟩
            · obtain ⟨f1, f2⟩ := x1 (by omega)
              refine ⟨?_, by omega⟩
              rw [hv, z2, e1, f1]
              split <;> omega
            · by_cases hc : (nodes u : Int) ≤ lv
              · have := (x1 hc).2; omega
              · have := x2 hc; omega)
          by_cases hmx : m < d
          · go_wp2
            go_roundg (l.length - (j + 1))
            case measure => omega
            case rel => exact ⟨d, lv2, j + 1, by omega, by omega, rfl, by rw [wrap_succ (by omega) (by have := HLEN.out; omega)]; rfl, HG6, HP6, ⟨HR.out d (by rw [if_pos hmx])⟩⟩
          · go_wp2
            go_roundg (l.length - (j + 1))
            case measure => omega
            case rel => exact ⟨m, lv2, j + 1, by omega, by omega, rfl, by rw [wrap_succ (by omega) (by have := HLEN.out; omega)]; rfl, HG6, HP6, ⟨HR.out m (by rw [if_neg (by omega)])⟩⟩
      · have hltz : ¬ (j : Int) < (l.length : Int) := by omega
        have hje : j = l.length := by omega
        have hm := depthL_le l
        subst hje
        rw [List.take_length] at HM
        go_wp2
        go_ret
        refine ⟨wrap64 (m + 1), lv, rfl, HP.out, fun h => ?_, fun h => ?_, (HM.out).2.2.1, HG.out⟩
        · rw [nodes] at h ⊢
          rw [depth]
          obtain ⟨e1, e2⟩ := (HM.out).1 (by omega)
          have := HD.out
          rw [e1, wr_id (by omega) (by omega)]
          exact ⟨by omega, by omega⟩
        · rw [nodes] at h
          exact (HM.out).2.1 (by omega)
def sizeV (t : S28) : Int × Int := if nodes t ≤ 20000 then ((nodes t : Int), (depth t : Int)) else (20001, 0)
set_option maxHeartbeats 2000000 in
theorem sizeG_calls (t : S28) (A : Option Addr) (c : Nat) (w : World) (hC : Kd.C k28 w A t.f1.length t.f1) (hc : t.f1.length ≤ c) :
    Calls Tryz.prog 110 #[.agg #[.int .i64 t.f0, .slice A t.f1.length c]] w fun E w' => E = .returned (.tuple #[.int .i64 (sizeV t).1, .int .i64 (sizeV t).2]) ∧ Below w.heap.size w w' := by
  have HM := Aside0.mk (measureG_calls w (w.heap.size + 1) (Nat.le_succ _) _ t (Nat.le_refl _) A c 20000 ((w.alloc (.cells #[.int .i64 t.f0, .slice A t.f1.length c] 28)).alloc (.cells #[.int .i64 20000] 3)) hC hc (below_alloc (below_alloc (Below.refl _ _) _) _) (blk_at2 w _ _) (by omega) (by omega))
  have HB := Aside0.mk (show Below w.heap.size w ((w.alloc (.cells #[.int .i64 t.f0, .slice A t.f1.length c] 28)).alloc (.cells #[.int .i64 20000] 3)) from below_alloc (below_alloc (Below.refl _ _) _) _)
  have HX := Aside0.mk (blk_alloc (blk_new w (.cells #[.int .i64 t.f0, .slice A t.f1.length c] 28)) (.cells #[.int .i64 20000] 3))
  clear hC hc
  go_enter Tryz.func110, Tryz.ntmps110
  go_upto_region 2 with (fail)
  generalize ((w.alloc (.cells #[.int .i64 t.f0, .slice A t.f1.length c] 28)).alloc (.cells #[.int .i64 20000] 3)) = W1 at *
  have hb0 : W1.cell? ⟨w.heap.size, 0, none⟩ = some (.int .i64 t.f0) := (blk_cell HX.out 0).trans rfl
  have hb1 : W1.cell? ⟨w.heap.size, 1, none⟩ = some (.slice A t.f1.length c) := (blk_cell HX.out 1).trans rfl
  go_wp2_with fail
  refine (HM.out).mono ?_
  rintro E w2 ⟨d, lv, rfl, hP, hx1, hx2, hx3, hG⟩
  have HB2 := Aside0.mk (below_of_grown HB.out (Nat.le_succ _) hG)
  have hq : w2.cell? ⟨w.heap.size + 1, 0, none⟩ = some (.int .i64 lv) := (blk_cell hP 0).trans rfl
  have HXX := Aside0.mk (And.intro hx1 (And.intro hx2 hx3))
  clear hG hP hb0 hb1 HM HX HB hx1 hx2 hx3
  by_cases hn : nodes t ≤ 20000
  · obtain ⟨rfl, e2⟩ := (HXX.out).1 (by omega)
    have hneg : ¬ lv < 0 := by omega
    have HE := Aside0.mk (show sizeV t = ((nodes t : Int), (depth t : Int)) from if_pos hn)
    have HL := Aside0.mk (show 20000 - lv = (nodes t : Int) by omega)
    have HLV := Aside0.mk (show 0 ≤ lv ∧ lv ≤ 20000 by omega)
    clear e2 hn
    go_wp2
    go_ret2
    refine ⟨?_, HB2.out⟩
    rw [HE.out]
    first
      | (rw [HL.out]; rfl)
      | (rw [wr_id (x := 20000 - lv) (by have := HLV.out; omega) (by have := HLV.out; omega), HL.out]; rfl)
  · have hneg : lv < 0 := (HXX.out).2.1 (by omega)
    have HE := Aside0.mk (show sizeV t = (20001, 0) from if_neg hn)
    clear hn
    go_wp2
    go_ret2
    exact ⟨by rw [HE.out]; rfl, HB2.out⟩
def fitsB (t : S28) : Bool := decide (nodes t ≤ 20000) && decide (depth t ≤ 200)
theorem fitsG_calls (t : S28) (A : Option Addr) (c : Nat) (w : World) (hC : Kd.C k28 w A t.f1.length t.f1) (hc : t.f1.length ≤ c) :
    Calls Tryz.prog 88 #[.agg #[.int .i64 t.f0, .slice A t.f1.length c]] w fun E w' => E = .returned (.bool (fitsB t)) ∧ Below w.heap.size w w' := by
  have HS := Aside0.mk fun W (hW : Below w.heap.size w W) => sizeG_calls t A c W (Kd.C_below hC hW) hc
  have HE := Aside0.mk (show (decide ((sizeV t).1 ≤ 20000) && decide ((sizeV t).2 ≤ 200)) = fitsB t by
    unfold sizeV fitsB
    by_cases h : nodes t ≤ 20000
    · rw [if_pos h, decide_eq_true h, decide_eq_true (show ((nodes t : Int), (depth t : Int)).1 ≤ 20000 by simp; omega)]
      by_cases h2 : depth t ≤ 200
      · rw [decide_eq_true h2, decide_eq_true (show ((nodes t : Int), (depth t : Int)).2 ≤ 200 by simp; omega)]
      · rw [decide_eq_false h2, decide_eq_false (show ¬ ((nodes t : Int), (depth t : Int)).2 ≤ 200 by simp; omega)]
    · rw [if_neg h, decide_eq_false h]; rfl)
  generalize (sizeV t).1 = a at *
  generalize (sizeV t).2 = b at *
  clear hC hc
  cases q1 : decide (a ≤ 20000) with
  | false =>
    rw [q1] at HE
    go_enter Tryz.func88, Tryz.ntmps88
    go_wp2_with fail
    refine (HS.out _ (below_alloc (Below.refl _ _) _)).mono ?_
    rintro E w2 ⟨rfl, hb⟩
    have HB2 := Aside0.mk (below_then (below_alloc (Below.refl w.heap.size w) (.cells #[.int .i64 t.f0, .slice A t.f1.length c] 28)) (by simp) hb)
    clear hb HS
    go_wp2
    go_ret
    exact ⟨by rw [← HE.out]; rfl, HB2.out⟩
  | true =>
    rw [q1, Bool.true_and] at HE
    go_enter Tryz.func88, Tryz.ntmps88
    go_wp2_with fail
    refine (HS.out _ (below_alloc (Below.refl _ _) _)).mono ?_
    rintro E w2 ⟨rfl, hb⟩
    have HB2 := Aside0.mk (below_then (below_alloc (Below.refl w.heap.size w) (.cells #[.int .i64 t.f0, .slice A t.f1.length c] 28)) (by simp) hb)
    clear hb HS
    go_wp2
    go_ret
    exact ⟨by rw [← HE.out]; rfl, HB2.out⟩
def tcheckV (rk : List Int) (t : S28) : Int := if ranksB rk then (if treeOk rk t then 0 else 9) else 2
set_option maxHeartbeats 1000000 in
theorem tcheckG_calls (rk : List Int) (t : S28) (A1 : Option Addr) (c1 : Nat) (A : Option Addr) (c : Nat) (w : World) (hr : Kd.C (Kd.int .i64) w A1 rk.length rk) (hc1 : rk.length ≤ c1) (hC : Kd.C k28 w A t.f1.length t.f1) (hc : t.f1.length ≤ c) :
    Calls Tryz.prog 40 #[.slice A1 rk.length c1, .agg #[.int .i64 t.f0, .slice A t.f1.length c]] w fun E w' => E = .returned (.int .i64 (tcheckV rk t)) ∧ Below w.heap.size w w' := by
  have HR := Aside0.mk fun W (hW : Below w.heap.size w W) => ranks_calls A1 c1 rk W (Kd.C_below hr hW) hc1
  have HF := Aside0.mk fun W (hW : Below w.heap.size w W) => fitsG_calls t A c W (Kd.C_below hC hW) hc
  have HO := Aside0.mk (show fitsB t = true → ∀ W, Below w.heap.size w W → Calls Tryz.prog 89 #[.slice A1 rk.length c1, .agg #[.int .i64 t.f0, .slice A t.f1.length c]] W fun E w' => E = .returned (.bool (overB rk t)) ∧ Below W.heap.size W w' from fun hf W hW => by
    simp only [fitsB, Bool.and_eq_true, decide_eq_true_eq] at hf
    obtain ⟨k, hk⟩ := (tover_ev rk _ t (Nat.le_refl _) hf.1).rounds
    exact Q.tree_over.calls k A1 c1 rk t.f0 A c t.f1 _ W (Kd.C_below hr hW) hc1 (Kd.C_below hC hW) hc hk)
  have HTO := Aside0.mk (show treeOk rk t = (fitsB t && overB rk t) from rfl)
  clear hr hc1 hC hc
  have HX := Aside0.mk (blk_new w (.cells #[.int .i64 t.f0, .slice A t.f1.length c] 28))
  have HB := Aside0.mk (below_alloc (Below.refl w.heap.size w) (.cells #[.int .i64 t.f0, .slice A t.f1.length c] 28))
  go_enter Tryz.func40, Tryz.ntmps40
  go_upto_region 1 with (fail)
  generalize (w.alloc (.cells #[.int .i64 t.f0, .slice A t.f1.length c] 28)) = W1 at *
  go_wp2_with fail
  refine (HR.out _ HB.out).mono ?_
  rintro E w2 ⟨rfl, hb⟩
  have HB2 := Aside0.mk (below_then HB.out (HB.out).size hb)
  have HX2 := Aside0.mk (blk_below HX.out hb)
  clear hb HB HX HR
  cases hrk : ranksB rk with
  | false =>
    have HV := Aside0.mk (show tcheckV rk t = 2 by unfold tcheckV; rw [hrk]; rfl)
    clear hrk
    go_wp2
    go_ret
    exact ⟨by rw [HV.out]; rfl, HB2.out⟩
  | true =>
  have HRK := Aside0.mk hrk
  clear hrk
  have hb0 : w2.cell? ⟨w.heap.size, 0, none⟩ = some (.int .i64 t.f0) := (blk_cell HX2.out 0).trans rfl
  have hb1 : w2.cell? ⟨w.heap.size, 1, none⟩ = some (.slice A t.f1.length c) := (blk_cell HX2.out 1).trans rfl
  go_wp2_with fail
  refine (HF.out _ HB2.out).mono ?_
  rintro E w3 ⟨rfl, hb⟩
  have HB3 := Aside0.mk (below_then HB2.out (HB2.out).size hb)
  have HX3 := Aside0.mk (blk_below HX2.out hb)
  clear hb HB2 HX2 HF hb0 hb1
  cases hf : fitsB t with
  | false =>
    have HV := Aside0.mk (show tcheckV rk t = 9 by unfold tcheckV; rw [HRK.out, HTO.out, hf]; rfl)
    clear hf
    go_wp2
    go_ret
    exact ⟨by rw [HV.out]; rfl, HB3.out⟩
  | true =>
  have HO2 := Aside0.mk (HO.out hf)
  have HFT := Aside0.mk hf
  clear hf HO
  have hb0 : w3.cell? ⟨w.heap.size, 0, none⟩ = some (.int .i64 t.f0) := (blk_cell HX3.out 0).trans rfl
  have hb1 : w3.cell? ⟨w.heap.size, 1, none⟩ = some (.slice A t.f1.length c) := (blk_cell HX3.out 1).trans rfl
  go_wp2_with fail
  refine (HO2.out _ HB3.out).mono ?_
  rintro E w4 ⟨rfl, hb⟩
  have HB4 := Aside0.mk (below_then HB3.out (HB3.out).size hb)
  clear hb HB3 HX3 HO2 hb0 hb1
  cases ho : overB rk t with
  | false =>
    have HV := Aside0.mk (show tcheckV rk t = 9 by unfold tcheckV; rw [HRK.out, HTO.out, ho, Bool.and_false]; rfl)
    clear ho
    go_wp2
    go_ret
    exact ⟨by rw [HV.out]; rfl, HB4.out⟩
  | true =>
    have HV := Aside0.mk (show tcheckV rk t = 0 by unfold tcheckV; rw [HRK.out, HTO.out, ho, HFT.out]; rfl)
    clear ho
    go_wp2
    go_ret
    exact ⟨by rw [HV.out]; rfl, HB4.out⟩
end Go.Proofs.YtbmcigakiibncaaGreatDoor.H
namespace Go.Proofs.YtbmcigakiibncaaGreatDoor.H
open Go.RowKit Go.Proofs.YtbmcigakiibncaaGreatDoorW.PrintWords Go.Proofs.YtbmcigakiibncaaGreatDoorW.PrintLast Go.Proofs.YtbmcigakiibncaaGreatDoorW.PrintMore
open Go.Proofs.YtbmcigakiibncaaGreatDoor.Q (S28 k28 rd_T28 z28 at_T28)
set_option linter.unusedVariables false
mutual
def accG (M : Mv) (z : Bool) : S28 → Nat → Bool
  | ⟨s, l⟩, q => if s = -1 then z else (altsAt M q s.toNat).any fun al => al.all fun x => (accGL M z l).getD x.f0.toNat (fun _ => false) x.f1.toNat
def accGL (M : Mv) (z : Bool) : List S28 → List (Nat → Bool)
  | [] => []
  | t :: r => accG M z t :: accGL M z r
end
theorem accGL_map (M : Mv) (z : Bool) (l : List S28) : accGL M z l = l.map (accG M z) := by
  induction l with
  | nil => rw [accGL]; rfl
  | cons a r ih => rw [accGL, ih]; rfl
theorem empty_mask (n : Nat) : IsMask n (fun _ => false) 0 := ⟨by omega, fun i hi => by simp⟩
theorem needOk_of {r n : Int} {x : Nd} (h : nbad r n x = false) : ∃ k s : Nat, (k : Int) < r ∧ (s : Int) < n ∧ x = ⟨(k : Int), (s : Int)⟩ := by
  unfold nbad at h
  simp only [Bool.or_eq_false_iff, decide_eq_false_iff_not] at h
  obtain ⟨a, b⟩ := x
  refine ⟨a.toNat, b.toNat, ?_, ?_, ?_⟩
  · have := h.1.1.1; have := h.1.1.2; simp at *; omega
  · have := h.1.2; have := h.2; simp at *; omega
  · have h1 : 0 ≤ a := by have := h.1.1.1; simp at this; exact this
    have h2 : 0 ≤ b := by have := h.1.2; simp at this; exact this
    rw [Int.toNat_of_nonneg h1, Int.toNat_of_nonneg h2]
theorem mvOk_of {rk : List Int} {st : Int} {M : Mv} (h : auB rk st M = true) : MvOk rk M ∧ ranksB rk = true ∧ 0 ≤ st ∧ st < (M.length : Int) := by
  unfold auB at h
  simp only [Bool.and_eq_true, decide_eq_true_eq] at h
  obtain ⟨⟨⟨⟨⟨h1, h2⟩, h3⟩, h4⟩, h5⟩, h6⟩ := h
  have hrow : ∀ q, q < M.length → mrowOk rk (M.length : Int) (M.getD q []) = true := fun q hq => List.all_eq_true.1 h6 _ (getD_memA hq)
  refine ⟨⟨h3, fun q hq => ?_, fun q f hq hf l hl x hx => ?_⟩, h1, h4, h5⟩
  · have := hrow q hq
    unfold mrowOk at this
    simp only [Bool.and_eq_true, decide_eq_true_eq] at this
    exact this.1
  · have h7 := hrow q hq
    unfold mrowOk at h7
    simp only [Bool.and_eq_true, decide_eq_true_eq, List.all_eq_true, List.mem_range] at h7
    have h8 := h7.2 f hf
    unfold altsOk at h8
    simp only [Bool.and_eq_true, decide_eq_true_eq, List.all_eq_true] at h8
    have h9 := h8.1.2 l hl
    unfold listOk at h9
    simp only [Bool.and_eq_true, decide_eq_true_eq, Bool.not_eq_true'] at h9
    obtain ⟨k, s, hk, hs, e⟩ := needOk_of (Bool.eq_false_iff.2 (List.any_eq_false.1 h9.1.2 x hx))
    exact ⟨k, s, by omega, by omega, e⟩
def MaskG (M : Mv) (z : Bool) (t : S28) (w : World) (E : Ending) (w' : World) : Prop := ∃ o : Nat, E = .returned (.int .i64 (o : Int)) ∧ IsMask M.length (accG M z t) o ∧ Below w.heap.size w w'
set_option maxHeartbeats 4000000 in
set_option maxRecDepth 100000 in
theorem maskG_calls (mode : Int) (z : Bool) (hz : z = decide (mode = 0)) (rk : List Int) (M : Mv) (hMv : MvOk rk M) (st : Int) (A1 : Option Addr) (n1 c1 : Nat) (A2 : Option Addr) (c2 : Nat) (w0 : World) (hM : Kd.C kA3 w0 A2 M.length M) (N : Nat) :
    ∀ t : S28, nodes t ≤ N → N ≤ 20000 → overB rk t = true → ∀ (A : Option Addr) (c : Nat) (w : World), Below w0.heap.size w0 w → Kd.C k28 w0 A t.f1.length t.f1 → t.f1.length ≤ c →
    Calls Tryz.prog 42 #[.agg #[.slice A1 n1 c1, .int .i64 st, .slice A2 M.length c2], .int .i64 mode, .agg #[.int .i64 t.f0, .slice A t.f1.length c]] w (MaskG M z t w) := by
  induction N with
  | zero => intro t h; have := nodes_pos t; omega
  | succ N ih =>
    intro t hN hN2 hov A c w hB0 hC hc
    obtain ⟨s, l⟩ := t
    rw [nodes] at hN
    have hll := lens_le (l := l)
    rw [overB, Bool.or_eq_true, Bool.and_eq_true, Bool.and_eq_true, Bool.and_eq_true, Bool.and_eq_true, decide_eq_true_eq, decide_eq_true_eq, decide_eq_true_eq, decide_eq_true_eq, decide_eq_true_eq] at hov
    have HOV := Aside0.mk hov
    have IH := Aside0.mk ih
    have HMv := Aside0.mk hMv
    have HM := Aside0.mk hM
    have HC := Aside0.mk hC
    have HB0 := Aside0.mk hB0
    have HD := Aside0.mk (show nodesL l + 1 ≤ N + 1 ∧ N + 1 ≤ 20000 ∧ l.length ≤ nodesL l from ⟨hN, hN2, hll⟩)
    have ha := below_alloc (below_alloc (Below.refl w.heap.size w) (.cells #[.slice A1 n1 c1, .int .i64 st, .slice A2 M.length c2] 25)) (.cells #[.int .i64 s, .slice A l.length c] 28)
    have hb1 := blk_alloc (blk_new w (.cells #[.slice A1 n1 c1, .int .i64 st, .slice A2 M.length c2] 25)) (.cells #[.int .i64 s, .slice A l.length c] 28)
    have hb2 := blk_at2 w (.cells #[.slice A1 n1 c1, .int .i64 st, .slice A2 M.length c2] 25) (.cells #[.int .i64 s, .slice A l.length c] 28)
    have HB := Aside0.mk ha
    have HB1 := Aside0.mk hb1
    have HB2 := Aside0.mk hb2
    clear ih hMv hM hC hB0 hN hN2 hll hov ha hb1 hb2
    go_enter Tryz.func42, Tryz.ntmps42
    go_upto_region 1 with (fail)
    generalize ((w.alloc (.cells #[.slice A1 n1 c1, .int .i64 st, .slice A2 M.length c2] 25)).alloc (.cells #[.int .i64 s, .slice A l.length c] 28)) = W1 at *
    have hk0 : W1.cell? ⟨w.heap.size + 1, 0, none⟩ = some (.int .i64 s) := (blk_cell HB2.out 0).trans rfl
    have hk1 : W1.cell? ⟨w.heap.size + 1, 1, none⟩ = some (.slice A l.length c) := (blk_cell HB2.out 1).trans rfl
    have hk2 : W1.cell? ⟨w.heap.size, 2, none⟩ = some (.slice A2 M.length c2) := (blk_cell HB1.out 2).trans rfl
    by_cases hs : s = -1
    · subst hs
      by_cases hm : mode = 0
      · subst hm
        have HZ := Aside0.mk (show z = true by rw [hz]; rfl)
        clear hz
        go_wp2
        go_ret
        obtain ⟨e1, e2⟩ := full_bit (HMv.out).1
        exact ⟨2 ^ M.length - 1, by rw [e1]; rfl, by rw [show accG M z ⟨-1, l⟩ = fun _ => true from by funext q; rw [accG, if_pos rfl, HZ.out]]; exact e2, HB.out⟩
      · have HZ := Aside0.mk (show z = false by rw [hz, decide_eq_false hm])
        have hmf : (mode == 0) = false := beq_eq_false_iff_ne.2 hm
        clear hz
        go_wp2
        go_ret
        exact ⟨0, rfl, by rw [show accG M z ⟨-1, l⟩ = fun _ => false from by funext q; rw [accG, if_pos rfl, HZ.out]]; exact empty_mask _, HB.out⟩
    · have HO := Aside0.mk ((HOV.out).resolve_left (fun hh => hs hh.1))
      obtain ⟨f, rfl⟩ : ∃ f : Nat, s = (f : Int) := ⟨s.toNat, by have := (HO.out).1.1.1; omega⟩
      have hsf : ((f : Int) == -1) = false := beq_eq_false_iff_ne.2 hs
      have HS := Aside0.mk hs
      clear HOV hs
      go_wp2
      clear hk0 hk1 hk2
      go_loopg [7, 23] l.length (fun gg v7 v23 wi => ∃ (ks : List Nat) (So : Nat → Prop), ks.length ≤ l.length ∧ l.length - ks.length ≤ gg ∧ v23 = .int .i64 ks.length ∧ Aside0 (Kd.R (Kd.int .i64) 3 wi w.heap.size So v7 (ks.map fun (m : Nat) => (m : Int))) ∧ Aside0 (∀ i, i < ks.length → IsMask M.length (accG M z (l.getD i z28)) (ks.getD i 0)) ∧ Aside0 (Below w.heap.size w wi) ∧
        Aside0 (wi.heap[w.heap.size]? = some (.cells #[.slice A1 n1 c1, .int .i64 st, .slice A2 M.length c2] 25 (0, 0))) ∧ Aside0 (wi.heap[w.heap.size + 1]? = some (.cells #[.int .i64 (f : Int), .slice A l.length c] 28 (0, 0))))
      case atStart => exact ⟨[], fun _ => False, by simp, by simp, rfl, ⟨Kd.R_nil _ _ _ _ _⟩, ⟨fun i hi => absurd hi (Nat.not_lt_zero _)⟩, HB, HB1, HB2⟩
      case round =>
        clear HB HB1 HB2
        obtain ⟨ks, So, hj, hgg, rfl, HR, HA, HB, HB1, HB2⟩ := hrel
        obtain ⟨Ak, ck, e⟩ := Kd.R_slice HR.out
        rw [List.length_map] at e
        subst e
        by_cases hlt : ks.length < l.length
        · have hltz : (ks.length : Int) < (l.length : Int) := by omega
          have HBr := Aside0.mk (below_then HB0.out (HB0.out).size HB.out)
          obtain ⟨ad, A3, c3, e, hx0, hx1, hl1, hC1⟩ := at_T28 HC.out (ks.length : Int) (by omega) hltz
          subst e
          rw [rdT_at hlt] at hx0 hx1 hl1 hC1
          rw [Int.toNat_natCast] at hx0 hx1
          replace hx0 := pw_cell_below HBr.out hx0
          replace hx1 := pw_cell_below HBr.out hx1
          have HJ := Aside0.mk (show nodes l[ks.length] ≤ nodesL l ∧ overB rk l[ks.length] = true ∧ l.getD ks.length z28 = l[ks.length] from ⟨nodes_mem (List.getElem_mem hlt), overL_mem (HO.out).2 (List.getElem_mem hlt), by rw [List.getD_eq_getElem?_getD, List.getElem?_eq_getElem hlt]; rfl⟩)
          generalize l[ks.length] = u at *
          have HC1 := Aside0.mk hC1
          have HL1 := Aside0.mk hl1
          clear hC1 hl1
          go_upto_region 9 with (fail)
          have ha := below_alloc (Below.refl wr.heap.size wr) (.cells #[.int .i64 u.f0, .slice A3 u.f1.length c3] 28)
          have HBr5 := Aside0.mk (below_then HBr.out (HBr.out).size ha)
          have HB5 := Aside0.mk (below_then HB.out (HB.out).size ha)
          have HB51 := Aside0.mk (blk_below HB1.out ha)
          have HB52 := Aside0.mk (blk_below HB2.out ha)
          have HR5 := Aside0.mk (Kd.R_below HR.out ha)
          have HX5 := Aside0.mk (blk_new wr (.cells #[.int .i64 u.f0, .slice A3 u.f1.length c3] 28))
          clear ha HB HB1 HB2 HBr HR hx0 hx1
          generalize (wr.alloc (.cells #[.int .i64 u.f0, .slice A3 u.f1.length c3] 28)) = w5 at *
          generalize wr.heap.size = b9 at *
          have hk0 : w5.cell? ⟨w.heap.size, 0, none⟩ = some (.slice A1 n1 c1) := (blk_cell HB51.out 0).trans rfl
          have hk1 : w5.cell? ⟨w.heap.size, 1, none⟩ = some (.int .i64 st) := (blk_cell HB51.out 1).trans rfl
          have hk2 : w5.cell? ⟨w.heap.size, 2, none⟩ = some (.slice A2 M.length c2) := (blk_cell HB51.out 2).trans rfl
          have hb0 : w5.cell? ⟨b9, 0, none⟩ = some (.int .i64 u.f0) := (blk_cell HX5.out 0).trans rfl
          have hb1 : w5.cell? ⟨b9, 1, none⟩ = some (.slice A3 u.f1.length c3) := (blk_cell HX5.out 1).trans rfl
          go_wp2_with fail
          refine (IH.out u (by have := HD.out; have := HJ.out; omega) (by have := HD.out; omega) (HJ.out).2.1 A3 c3 w5 HBr5.out HC1.out HL1.out).mono ?_
          rintro E w6 ⟨o, rfl, hmask, hb⟩
          have HK6 := Aside0.mk hmask
          have HB6 := Aside0.mk (below_then HB5.out (HB5.out).size hb)
          have HB61 := Aside0.mk (blk_below HB51.out hb)
          have HB62 := Aside0.mk (blk_below HB52.out hb)
          have HR6 := Aside0.mk (Kd.R_below HR5.out hb)
          clear hb hmask HB5 HB51 HB52 HR5 HX5 HBr5 hk0 hk1 hk2 hb0 hb1
          go_wp2_with ((with_reducible refine gate_builtin (b := .append) (xs := #[.tmp 27, .tmp 32]) rfl ?_); at_builtin; refine Kd.R_append (Kd.int .i64) (w0 := w) w.heap.size rfl (.tmp 27) (.tmp 32) 22 3 (.int .i64 0) 8 rfl Tryz.underlying22 Q.info3 rfl (by decide) (by omega) (.slice Ak ks.length ck) (ks.map fun (m : Nat) => (m : Int)) (o : Int) [.int .i64 (o : Int)] (fun k => So k ∨ w6.heap.size ≤ k) (fun _ => False) rfl rfl rfl (fun _ hk => hk.elim) (fun k hk => .inr hk) (Kd.R_mono HR6.out (fun _ hk => .inl hk)) HB6.out (HB6.out).size (by rw [List.length_map]; have := HD.out; omega) ?_; intro v7 w7 ho7 hb7 hg7 hat7; have HR7 := Aside0.mk ho7; have HB7 := Aside0.mk hb7; have HB71 := Aside0.mk (blk_grown HB61.out hg7 (Kd.R_ne HR6.out HB61.out (by decide))); have HB72 := Aside0.mk (blk_grown HB62.out hg7 (Kd.R_ne HR6.out HB62.out (by decide))); clear ho7 hb7 hg7 hat7)
          go_roundg (l.length - (ks.length + 1))
          case measure => omega
          case rel =>
            refine ⟨ks ++ [o], _, by rw [List.length_append, List.length_singleton]; omega, by rw [List.length_append, List.length_singleton]; omega, by rw [wrap_succ (by omega) (by have := HD.out; omega), List.length_append]; rfl, ⟨by rw [List.map_append]; exact HR7.out⟩, ⟨fun i hi => ?_⟩, HB7, HB71, HB72⟩
            rw [List.length_append, List.length_singleton] at hi
            by_cases e : i = ks.length
            · subst e
              rw [(HJ.out).2.2, List.getD_eq_getElem?_getD, List.getElem?_append_right (by omega), Nat.sub_self]
              exact HK6.out
            · rw [List.getD_eq_getElem?_getD (l := ks ++ [o]), List.getElem?_append_left (by omega), ← List.getD_eq_getElem?_getD]
              exact HA.out i (by omega)
        · have hltz : ¬ (ks.length : Int) < (l.length : Int) := by omega
          have hje : ks.length = l.length := by omega
          have HBr := Aside0.mk (below_then HB0.out (HB0.out).size HB.out)
          have hr := Kd.R_reads' HR.out
          rw [List.length_map] at hr
          have HSat := Aside0.mk (sat_calls M f ks st A1 n1 c1 A2 c2 Ak ck wr (Kd.C_below HM.out HBr.out) hr.2.2 (HMv.out).1 (fun m hm => by obtain ⟨i, hi, rfl⟩ := List.getElem_of_mem hm; have := ((HA.out) i hi).1; rwa [List.getD_eq_getElem?_getD, List.getElem?_eq_getElem hi] at this)
            (fun q hq => by rw [(HMv.out).2.1 q hq]; have := (HO.out).1.1.2; omega)
            (fun q hq al hal x hx => by
              obtain ⟨k, s', hk, hs', e⟩ := (HMv.out).2.2 q f hq (by have := (HO.out).1.1.2; omega) al hal x hx
              exact ⟨k, s', by have := (HO.out).1.2; omega, by have := (HMv.out).1; omega, e⟩))
          have HEQ := Aside0.mk (show ∀ i, i < M.length → satBit M f ks i = accG M z ⟨(f : Int), l⟩ i from fun i hi => by
            rw [accG, if_neg HS.out, Int.toNat_natCast, accGL_map]
            unfold satBit
            refine any_congr fun al hal => all_congr fun x hx => ?_
            obtain ⟨k, s', hk, hs', e⟩ := (HMv.out).2.2 i f hi (by have := (HO.out).1.1.2; omega) al hal x hx
            subst e
            have hkl : k < l.length := by have := (HO.out).1.2; omega
            have h6 := ((HA.out) k (by omega)).2 s' (by have := (HMv.out).1; omega)
            unfold meets
            simp only [Int.toNat_natCast]
            rw [h6, decide_eq_true hs', Bool.true_and, List.getD_eq_getElem?_getD, List.getD_eq_getElem?_getD, List.getElem?_eq_getElem hkl, List.getElem?_map, List.getElem?_eq_getElem hkl]
            rfl)
          have hk0 : wr.cell? ⟨w.heap.size, 0, none⟩ = some (.slice A1 n1 c1) := (blk_cell HB1.out 0).trans rfl
          have hk1 : wr.cell? ⟨w.heap.size, 1, none⟩ = some (.int .i64 st) := (blk_cell HB1.out 1).trans rfl
          have hk2 : wr.cell? ⟨w.heap.size, 2, none⟩ = some (.slice A2 M.length c2) := (blk_cell HB1.out 2).trans rfl
          have hk3 : wr.cell? ⟨w.heap.size + 1, 0, none⟩ = some (.int .i64 (f : Int)) := (blk_cell HB2.out 0).trans rfl
          clear hr hje
          go_wp2_with fail
          with_reducible refine (HSat.out).mono ?_
          rintro E w6 ⟨o, rfl, ho, hbit, hb⟩
          have HB6 := Aside0.mk (below_then HB.out (HB.out).size hb)
          have HMK := Aside0.mk (show IsMask M.length (accG M z ⟨(f : Int), l⟩) o from ⟨ho, fun i hi => by
            rw [hbit i hi]
            by_cases e : i < M.length
            · rw [HEQ.out i e]
            · rw [decide_eq_false e, Bool.false_and, Bool.false_and]⟩)
          clear hk0 hk1 hk2 hk3 hb HB HB1 HB2 HSat HEQ
          go_wp2
          go_ret
          exact ⟨o, rfl, HMK.out, HB6.out⟩
def stErr (rk : List Int) (st : Int) (M : Mv) (mode : Int) (t : S28) : Int := if auB rk st M then (if treeOk rk t then (if mode = 0 ∨ mode = 1 then 0 else 2) else 9) else 10
def StatesG (rk : List Int) (st : Int) (M : Mv) (mode : Int) (t : S28) (w : World) (E : Ending) (w' : World) : Prop :=
  ∃ (ys : List Int) (A : Option Addr) (c : Nat), E = .returned (.tuple #[.slice A ys.length c, .int .i64 (stErr rk st M mode t)]) ∧ ys.length ≤ c ∧ Kd.C (Kd.int .i64) w' A ys.length ys ∧ Below w.heap.size w w' ∧
    (stErr rk st M mode t = 0 → ∃ o : Nat, IsMask M.length (accG M (decide (mode = 0)) t) o ∧ ys = bitsL o) ∧ (stErr rk st M mode t ≠ 0 → ys = [])
set_option maxHeartbeats 4000000 in
set_option maxRecDepth 100000 in
theorem statesG_calls (rk : List Int) (M : Mv) (st mode : Int) (t : S28) (A1 : Option Addr) (c1 : Nat) (A2 : Option Addr) (c2 : Nat) (A : Option Addr) (c : Nat) (w : World)
    (hr : Kd.C (Kd.int .i64) w A1 rk.length rk) (hc1 : rk.length ≤ c1) (hM : Kd.C kA3 w A2 M.length M) (hC : Kd.C k28 w A t.f1.length t.f1) (hc : t.f1.length ≤ c) (hT : Tab w) :
    Calls Tryz.prog 13 #[.agg #[.slice A1 rk.length c1, .int .i64 st, .slice A2 M.length c2], .int .i64 mode, .agg #[.int .i64 t.f0, .slice A t.f1.length c]] w (StatesG rk st M mode t w) := by
  have HCH := Aside0.mk fun W (hW : Below w.heap.size w W) => acheckG_calls rk M st A1 c1 A2 c2 W (Kd.C_below hr hW) hc1 (Kd.C_below hM hW)
  have HTC := Aside0.mk fun W (hW : Below w.heap.size w W) => tcheckG_calls rk t A1 c1 A c W (Kd.C_below hr hW) hc1 (Kd.C_below hC hW) hc
  have HMA := Aside0.mk (show auB rk st M = true → treeOk rk t = true → ∀ W, Below w.heap.size w W → Calls Tryz.prog 42 #[.agg #[.slice A1 rk.length c1, .int .i64 st, .slice A2 M.length c2], .int .i64 mode, .agg #[.int .i64 t.f0, .slice A t.f1.length c]] W (MaskG M (decide (mode = 0)) t W) from fun ha ht W hW => by
    simp only [treeOk, Bool.and_eq_true, decide_eq_true_eq] at ht
    exact maskG_calls mode _ rfl rk M (mvOk_of ha).1 st A1 rk.length c1 A2 c2 w hM _ t (Nat.le_refl _) ht.1.1 ht.2 A c W hW hC hc)
  have HLI := Aside0.mk fun W (hW : Below w.heap.size w W) (o : Nat) (ho : o < 64) => list_calls o ho W (hT.below hW)
  have HS := Aside0.mk (AT2.start w #[.slice A1 rk.length c1, .int .i64 st, .slice A2 M.length c2] #[.int .i64 t.f0, .slice A t.f1.length c])
  clear hr hc1 hM hC hc hT
  go_enter Tryz.func13, Tryz.ntmps13
  go_upto_region 1 with (fail)
  generalize ((w.alloc (.cells #[.slice A1 rk.length c1, .int .i64 st, .slice A2 M.length c2] 25)).alloc (.cells #[.int .i64 t.f0, .slice A t.f1.length c] 28)) = W1 at *
  obtain ⟨hk0, hk1, hk2⟩ := box3_cells (HS.out).h1
  go_wp2_with fail
  refine (HCH.out _ (HS.out).hb).mono ?_
  rintro E w2 ⟨rfl, hb⟩
  have HS2 := Aside0.mk ((HS.out).below hb)
  clear hb hk0 hk1 hk2 HS HCH
  cases hau : auB rk st M with
  | false =>
    have HE := Aside0.mk (show stErr rk st M mode t = 10 by unfold stErr; rw [hau]; rfl)
    rw [chk_false hau]
    clear hau
    go_wp2
    go_ret2
    exact ⟨[], none, 0, by rw [HE.out]; rfl, by simp, (Kd.R_reads' (Kd.R_nil (Kd.int .i64) 3 w2 0 (fun _ => True))).2.2, (HS2.out).hb, fun h => absurd h (by rw [HE.out]; decide), fun _ => rfl⟩
  | true =>
  rw [chk_true hau]
  have HAU := Aside0.mk hau
  have HRK := Aside0.mk (mvOk_of hau).2.1
  clear hau
  obtain ⟨hk0, hk1, hk2⟩ := box3_cells (HS2.out).h1
  obtain ⟨hk3, hk4⟩ := box2_cells (HS2.out).h2
  go_wp2_with fail
  refine (HTC.out _ (HS2.out).hb).mono ?_
  rintro E w3 ⟨rfl, hb⟩
  have HS3 := Aside0.mk ((HS2.out).below hb)
  clear hb hk0 hk1 hk2 hk3 hk4 HS2 HTC
  cases hto : treeOk rk t with
  | false =>
    have HE := Aside0.mk (show stErr rk st M mode t = 9 by unfold stErr; rw [HAU.out, hto]; rfl)
    rw [show tcheckV rk t = 9 by unfold tcheckV; rw [HRK.out, hto]; rfl]
    clear hto
    go_wp2
    go_ret2
    exact ⟨[], none, 0, by rw [HE.out]; rfl, by simp, (Kd.R_reads' (Kd.R_nil (Kd.int .i64) 3 w3 0 (fun _ => True))).2.2, (HS3.out).hb, fun h => absurd h (by rw [HE.out]; decide), fun _ => rfl⟩
  | true =>
  rw [show tcheckV rk t = 0 by unfold tcheckV; rw [HRK.out, hto]; rfl]
  have HMA2 := Aside0.mk (HMA.out HAU.out hto)
  have HTO := Aside0.mk hto
  clear hto HMA
  by_cases hm : mode = 0 ∨ mode = 1
  · have HE := Aside0.mk (show stErr rk st M mode t = 0 by unfold stErr; rw [HAU.out, HTO.out, if_pos rfl, if_pos rfl, if_pos hm])
    have hd : ¬ (mode ≠ 0 ∧ mode ≠ 1) := by omega
    obtain ⟨hk0, hk1, hk2⟩ := box3_cells (HS3.out).h1
    obtain ⟨hk3, hk4⟩ := box2_cells (HS3.out).h2
    have hdone : ∀ (w4 : World) (o : Nat), True := fun _ _ => trivial
    rcases hm with hm | hm
    · subst hm
      go_wp2_with fail
      refine (HMA2.out _ (HS3.out).hb).mono ?_
      rintro E w4 ⟨o, rfl, hmk, hb⟩
      have HS4 := Aside0.mk ((HS3.out).below hb)
      have HK := Aside0.mk hmk
      clear hb hmk hk0 hk1 hk2 hk3 hk4 HS3 HMA2
      go_wp2_with fail
      refine (HLI.out _ (HS4.out).hb o (HK.out).1).mono ?_
      rintro E w5 ⟨A5, c5, rfl, hl5, hC5, hb⟩
      have HB5 := Aside0.mk ((HS4.out).below hb).hb
      have HC5 := Aside0.mk hC5
      have HL5 := Aside0.mk hl5
      clear hb hC5 hl5 HS4 HLI
      go_wp2
      go_ret2
      exact ⟨bitsL o, A5, c5, by rw [HE.out]; rfl, HL5.out, HC5.out, HB5.out, fun _ => ⟨o, HK.out, rfl⟩, fun h => absurd HE.out h⟩
    · subst hm
      go_wp2_with fail
      refine (HMA2.out _ (HS3.out).hb).mono ?_
      rintro E w4 ⟨o, rfl, hmk, hb⟩
      have HS4 := Aside0.mk ((HS3.out).below hb)
      have HK := Aside0.mk hmk
      clear hb hmk hk0 hk1 hk2 hk3 hk4 HS3 HMA2
      go_wp2_with fail
      refine (HLI.out _ (HS4.out).hb o (HK.out).1).mono ?_
      rintro E w5 ⟨A5, c5, rfl, hl5, hC5, hb⟩
      have HB5 := Aside0.mk ((HS4.out).below hb).hb
      have HC5 := Aside0.mk hC5
      have HL5 := Aside0.mk hl5
      clear hb hC5 hl5 HS4 HLI
      go_wp2
      go_ret2
      exact ⟨bitsL o, A5, c5, by rw [HE.out]; rfl, HL5.out, HC5.out, HB5.out, fun _ => ⟨o, HK.out, rfl⟩, fun h => absurd HE.out h⟩
  · have HE := Aside0.mk (show stErr rk st M mode t = 2 by unfold stErr; rw [HAU.out, HTO.out, if_pos rfl, if_pos rfl, if_neg hm])
    have d1 : (mode == 0) = false := beq_eq_false_iff_ne.2 (fun h => hm (.inl h))
    have d2 : (mode != 0) = true := bne_iff_ne.2 (fun h => hm (.inl h))
    have d3 : (mode == 1) = false := beq_eq_false_iff_ne.2 (fun h => hm (.inr h))
    have d4 : (mode != 1) = true := bne_iff_ne.2 (fun h => hm (.inr h))
    clear hm
    go_wp2
    go_ret2
    exact ⟨[], none, 0, by rw [HE.out]; rfl, by simp, (Kd.R_reads' (Kd.R_nil (Kd.int .i64) 3 w3 0 (fun _ => True))).2.2, (HS3.out).hb, fun h => absurd h (by rw [HE.out]; decide), fun _ => rfl⟩
def isV (rk : List Int) (st : Int) (M : Mv) (mode : Int) (t : S28) : Bool := decide (stErr rk st M mode t = 0) && accG M (decide (mode = 0)) t st.toNat
set_option maxHeartbeats 4000000 in
theorem aisG_calls (rk : List Int) (M : Mv) (st mode : Int) (t : S28) (A1 : Option Addr) (c1 : Nat) (A2 : Option Addr) (c2 : Nat) (A : Option Addr) (c : Nat) (w : World)
    (hr : Kd.C (Kd.int .i64) w A1 rk.length rk) (hc1 : rk.length ≤ c1) (hM : Kd.C kA3 w A2 M.length M) (hC : Kd.C k28 w A t.f1.length t.f1) (hc : t.f1.length ≤ c) (hT : Tab w) :
    Calls Tryz.prog 15 #[.agg #[.slice A1 rk.length c1, .int .i64 st, .slice A2 M.length c2], .int .i64 mode, .agg #[.int .i64 t.f0, .slice A t.f1.length c]] w fun E w' => E = .returned (.tuple #[.bool (isV rk st M mode t), .int .i64 (stErr rk st M mode t)]) ∧ Below w.heap.size w w' := by
  have HST := Aside0.mk fun W (hW : Below w.heap.size w W) => statesG_calls rk M st mode t A1 c1 A2 c2 A c W (Kd.C_below hr hW) hc1 (Kd.C_below hM hW) (Kd.C_below hC hW) hc (hT.below hW)
  have HS := Aside0.mk (AT2.start w #[.slice A1 rk.length c1, .int .i64 st, .slice A2 M.length c2] #[.int .i64 t.f0, .slice A t.f1.length c])
  clear hr hc1 hM hC hc hT
  go_enter Tryz.func15, Tryz.ntmps15
  go_upto_region 1 with (fail)
  generalize ((w.alloc (.cells #[.slice A1 rk.length c1, .int .i64 st, .slice A2 M.length c2] 25)).alloc (.cells #[.int .i64 t.f0, .slice A t.f1.length c] 28)) = W1 at *
  obtain ⟨hk0, hk1, hk2⟩ := box3_cells (HS.out).h1
  obtain ⟨hk3, hk4⟩ := box2_cells (HS.out).h2
  go_wp2_with fail
  refine (HST.out _ (HS.out).hb).mono ?_
  rintro E w2 ⟨ys, A5, c5, rfl, hl5, hC5, hb, hz, hnz⟩
  have HS2 := Aside0.mk ((HS.out).below hb)
  have HCO := Aside0.mk (show Calls Tryz.prog 45 #[.slice A5 ys.length c5, .int .i64 st] w2 fun E w' => E = .returned (.bool (isV rk st M mode t)) ∧ Below w2.heap.size w2 w' from by
    by_cases he : stErr rk st M mode t = 0
    · obtain ⟨o, hm, rfl⟩ := hz he
      have hau : auB rk st M = true := by
        cases h : auB rk st M with
        | true => rfl
        | false => unfold stErr at he; rw [h] at he; simp at he
      obtain ⟨hmv, _, h0, h1⟩ := mvOk_of hau
      have h6 := hmv.1
      obtain ⟨s, rfl⟩ : ∃ s : Nat, st = (s : Int) := ⟨st.toNat, by omega⟩
      have e1 : isV rk (s : Int) M mode t = o.testBit s := by
        unfold isV
        rw [decide_eq_true he, Bool.true_and, Int.toNat_natCast, hm.2 s (by omega), decide_eq_true (show s < M.length by omega), Bool.true_and]
      rw [e1]
      exact (Q.slices_Contains_int_int.calls 20 A5 c5 (bitsL o) (s : Int) (o.testBit s) w2 hC5 hl5 (contains_bit hm.1 (by omega))).mono fun _ _ h => ⟨h.1, h.2.below⟩
    · have hy := hnz he
      subst hy
      have e1 : isV rk st M mode t = false := by unfold isV; rw [decide_eq_false he, Bool.false_and]
      rw [e1]
      exact (Q.slices_Contains_int_int.calls 20 A5 c5 [] st false w2 hC5 hl5 rfl).mono fun _ _ h => ⟨h.1, h.2.below⟩)
  clear hb hz hnz hl5 hC5 hk0 hk1 hk2 hk3 hk4 HS HST
  obtain ⟨hk0, hk1, hk2⟩ := box3_cells (HS2.out).h1
  go_wp2_with fail
  refine (HCO.out).mono ?_
  rintro E w3 ⟨rfl, hb⟩
  have HB3 := Aside0.mk (below_then (HS2.out).hb ((HS2.out).hb).size hb)
  clear hb hk0 hk1 hk2 HS2 HCO
  go_wp2
  go_ret2
  exact ⟨rfl, HB3.out⟩
end Go.Proofs.YtbmcigakiibncaaGreatDoor.H
namespace Go.Proofs.YtbmcigakiibncaaGreatDoor.H
open Go.RowKit Go.Proofs.YtbmcigakiibncaaGreatDoorW.PrintWords Go.Proofs.YtbmcigakiibncaaGreatDoorW.PrintLast Go.Proofs.YtbmcigakiibncaaGreatDoorW.PrintMore
set_option linter.unusedVariables false
def lo (x : Nat) : Nat := Lib.ctz 64 x
theorem lo_spec {x : Nat} (h0 : x ≠ 0) (h : x < 16777216) : ∃ m, x = 2 ^ lo x * (2 * m + 1) ∧ lo x < 24 := by
  obtain ⟨m, hm, _⟩ := Lib.ctzFrom_spec 64 x (by omega) (by omega)
  have e : lo x = Lib.ctzFrom 64 x := by unfold lo Lib.ctz; rw [if_neg h0]
  refine ⟨m, by rw [e]; exact hm, ?_⟩
  apply Nat.lt_of_not_le
  intro hle
  have h1 : 2 ^ 24 ≤ 2 ^ lo x := Nat.pow_le_pow_right (by decide) hle
  have h2 : 2 ^ lo x ≤ 2 ^ lo x * (2 * m + 1) := Nat.le_mul_of_pos_right _ (by omega)
  rw [e] at h1 h2
  rw [← hm] at h2
  omega
theorem bit_at {k m i : Nat} : (2 ^ k * (2 * m + 1)).testBit i = (decide (k ≤ i) && (2 * m + 1).testBit (i - k)) := by
  rw [Nat.mul_comm, Nat.testBit_mul_two_pow]
theorem lo_bits {x : Nat} (h0 : x ≠ 0) (h : x < 16777216) : x.testBit (lo x) = true ∧ (∀ i, i < lo x → x.testBit i = false) ∧ lo x < 24 := by
  obtain ⟨m, hm, hk⟩ := lo_spec h0 h
  generalize lo x = k at *
  subst hm
  refine ⟨?_, fun i hi => ?_, hk⟩
  · rw [bit_at]; simp
  · rw [bit_at, decide_eq_false (by omega)]; rfl
theorem drop_bit {x : Nat} (h0 : x ≠ 0) (h : x < 16777216) (i : Nat) : (x &&& (x - 1)).testBit i = (x.testBit i && decide (i ≠ lo x)) := by
  obtain ⟨m, hm, hk⟩ := lo_spec h0 h
  generalize lo x = k at *
  subst hm
  have e : 2 ^ k * (2 * m + 1) - 1 = 2 ^ k * (2 * m) + (2 ^ k - 1) := by
    have : 0 < 2 ^ k := Nat.pos_of_ne_zero (by simp)
    rw [Nat.mul_add, Nat.mul_one]; omega
  have hlt : 2 ^ k - 1 < 2 ^ k := by have : 0 < 2 ^ k := Nat.pos_of_ne_zero (by simp); omega
  rw [Nat.testBit_and, e, Nat.testBit_two_pow_mul_add _ hlt, bit_at]
  by_cases h1 : k ≤ i
  · rw [decide_eq_true h1, if_neg (by omega)]
    by_cases h2 : i = k
    · subst h2
      simp
    · obtain ⟨j, rfl⟩ : ∃ j, i = k + (j + 1) := ⟨i - k - 1, by omega⟩
      have e3 : k + (j + 1) - k = j + 1 := by omega
      rw [e3, Nat.testBit_succ, Nat.testBit_succ]
      have d1 : (2 * m + 1) / 2 = m := by omega
      have d2 : 2 * m / 2 = m := by omega
      rw [d1, d2, decide_eq_true h2]
      simp
  · rw [decide_eq_false h1]; simp
theorem drop_lt {x : Nat} (h0 : x ≠ 0) (h : x < 16777216) : x &&& (x - 1) < x := by
  have h1 : x &&& (x - 1) ≤ x - 1 := Nat.and_le_right
  omega
def bitsN (m : Nat) : List Nat := (List.range 24).filter fun i => m.testBit i
theorem range_cut {n k : Nat} (h : k < n) : List.range n = List.range k ++ k :: List.range' (k + 1) (n - k - 1) := by
  rw [List.range_eq_range', List.range_eq_range', show n = k + (n - k) by omega, ← List.range'_append_1]
  rw [show k + (n - k) - k - 1 = n - k - 1 by omega]
  congr 1
  rw [show n - k = (n - k - 1) + 1 by omega, List.range'_succ]
  simp
theorem filter_first {p q : Nat → Bool} {n k : Nat} (h : k < n) (h1 : ∀ i, i < k → p i = false) (h2 : p k = true) (h3 : ∀ i, q i = (p i && decide (i ≠ k))) : (List.range n).filter p = k :: (List.range n).filter q := by
  rw [range_cut h, List.filter_append, List.filter_append, List.filter_cons, List.filter_cons, h2, h3 k]
  have e1 : (List.range k).filter p = [] := List.filter_eq_nil_iff.2 fun i hi => by rw [h1 i (List.mem_range.1 hi)]; simp
  have e2 : (List.range k).filter q = [] := List.filter_eq_nil_iff.2 fun i hi => by rw [h3, h1 i (List.mem_range.1 hi)]; simp
  have e3 : (List.range' (k + 1) (n - k - 1)).filter p = (List.range' (k + 1) (n - k - 1)).filter q := List.filter_congr fun i hi => by
    have := (List.mem_range'_1.1 hi).1
    rw [h3, decide_eq_true (show i ≠ k by omega), Bool.and_true]
  rw [e1, e2, e3]
  simp
theorem bitsN_step {x : Nat} (h0 : x ≠ 0) (h : x < 16777216) : bitsN x = lo x :: bitsN (x &&& (x - 1)) := by
  obtain ⟨h1, h2, h3⟩ := lo_bits h0 h
  exact filter_first h3 h2 h1 (fun i => drop_bit h0 h i)
theorem bitsN_len (m : Nat) : (bitsN m).length ≤ 24 := by
  unfold bitsN
  exact Nat.le_trans (List.length_filter_le _ _) (by simp)
theorem bitsN_zero : bitsN 0 = [] := by unfold bitsN; simp
theorem i64_and {a b : Nat} (ha : a < 4611686018427387904) (hb : b < 4611686018427387904) : bits .and .i64 (a : Int) (b : Int) = ((a &&& b : Nat) : Int) := by
  have hx : a &&& b < 2 ^ 62 := Nat.and_lt_two_pow _ (by omega)
  show IntKind.i64.wrap ((BitVec.ofInt 64 (a : Int) &&& BitVec.ofInt 64 (b : Int)).toNat : Int) = _
  rw [BitVec.toNat_and, ofInt_u64 a (by omega), ofInt_u64 b (by omega), IntKind.wrap_i64]
  omega
theorem i64_or {a b : Nat} (ha : a < 4611686018427387904) (hb : b < 4611686018427387904) : bits .or .i64 (a : Int) (b : Int) = ((a ||| b : Nat) : Int) := by
  have hx : a ||| b < 2 ^ 62 := Nat.or_lt_two_pow (by omega) (by omega)
  show IntKind.i64.wrap ((BitVec.ofInt 64 (a : Int) ||| BitVec.ofInt 64 (b : Int)).toNat : Int) = _
  rw [BitVec.toNat_or, ofInt_u64 a (by omega), ofInt_u64 b (by omega), IntKind.wrap_i64]
  omega
theorem i64_andNot {a b : Nat} (ha : a < 4611686018427387904) (hb : b < 4611686018427387904) : bits .andNot .i64 (a : Int) (b : Int) = ((a &&& (18446744073709551615 - b) : Nat) : Int) := by
  have hx : a &&& (18446744073709551615 - b) ≤ a := Nat.and_le_left
  show IntKind.i64.wrap ((BitVec.ofInt 64 (a : Int) &&& ~~~BitVec.ofInt 64 (b : Int)).toNat : Int) = _
  rw [BitVec.toNat_and, BitVec.toNat_not, ofInt_u64 a (by omega), ofInt_u64 b (by omega), IntKind.wrap_i64]
  have e : 2 ^ 64 - 1 - b = 18446744073709551615 - b := by omega
  rw [e]
  omega
theorem ofInt_neg (x : Nat) (h0 : x ≠ 0) (h : x < 4611686018427387904) : (BitVec.ofInt 64 (-(x : Int))).toNat = 18446744073709551616 - x := by
  rw [BitVec.toNat_ofInt]
  omega
theorem low_nat {x : Nat} (h0 : x ≠ 0) (h : x < 16777216) : x &&& (18446744073709551616 - x) = 2 ^ lo x := (Lib.lowest_bit 64 x h0 (by omega)).1
theorem lo_pow {x : Nat} (h0 : x ≠ 0) (h : x < 16777216) : 2 ^ lo x < 16777216 ∧ 0 < 2 ^ lo x := by
  have := (lo_bits h0 h).2.2
  exact ⟨Nat.lt_of_lt_of_le (Nat.pow_lt_pow_right (by decide) this) (by decide), Nat.pos_of_ne_zero (by simp)⟩
theorem i64_low {x : Nat} (h0 : x ≠ 0) (h : x < 16777216) : bits .and .i64 (x : Int) (-(x : Int)) = ((2 ^ lo x : Nat) : Int) := by
  have hp := lo_pow h0 h
  show IntKind.i64.wrap ((BitVec.ofInt 64 (x : Int) &&& BitVec.ofInt 64 (-(x : Int))).toNat : Int) = _
  rw [BitVec.toNat_and, ofInt_u64 x (by omega), ofInt_neg x h0 (by omega), low_nat h0 h, IntKind.wrap_i64]
  generalize 2 ^ lo x = p at *
  omega
theorem u64_low {x : Nat} (h0 : x ≠ 0) (h : x < 16777216) : bits .and .u64 (x : Int) (IntKind.u64.wrap (-(x : Int))) = ((2 ^ lo x : Nat) : Int) := by
  have e : IntKind.u64.wrap (-(x : Int)) = ((18446744073709551616 - x : Nat) : Int) := by rw [IntKind.wrap_u64]; omega
  rw [e, u64_and_nat x _ (by omega) (by omega), low_nat h0 h]
theorem i64_drop {x : Nat} (h0 : x ≠ 0) (h : x < 16777216) : bits .and .i64 (x : Int) ((x : Int) - 1) = ((x &&& (x - 1) : Nat) : Int) := by
  rw [show ((x : Int) - 1) = ((x - 1 : Nat) : Int) by omega]
  exact i64_and (by omega) (by omega)
theorem u64_drop {x : Nat} (h0 : x ≠ 0) (h : x < 16777216) : bits .and .u64 (x : Int) ((x : Int) - 1) = ((x &&& (x - 1) : Nat) : Int) := by
  rw [show ((x : Int) - 1) = ((x - 1 : Nat) : Int) by omega]
  exact u64_and_nat _ _ (by omega) (by omega)
end Go.Proofs.YtbmcigakiibncaaGreatDoor.H
namespace Go.Proofs.YtbmcigakiibncaaGreatDoor.H
open Go.RowKit Go.Proofs.YtbmcigakiibncaaGreatDoorW.PrintWords Go.Proofs.YtbmcigakiibncaaGreatDoorW.PrintLast Go.Proofs.YtbmcigakiibncaaGreatDoorW.PrintMore
set_option linter.unusedVariables false
def TabD (w : World) : Prop := ∀ k, k < 64 → w.cell? ⟨1, k, none⟩ = some (.int .u8 ((Lib.deBruijn64tab.getD k 0 : Nat) : Int))
theorem TabD.below {w w1 : World} (h : TabD w) (hb : Below w.heap.size w w1) : TabD w1 := fun k hk => pw_cell_below hb (h k hk)
theorem TabD.tab {w : World} (h : TabD w) : Tab w := ⟨h 0 (by decide), h 1 (by decide), h 3 (by decide), h 7 (by decide), h 15 (by decide), h 31 (by decide)⟩
theorem tzAt_wide {x : Nat} (h0 : x ≠ 0) (h : x < 16777216) : tzAt (x : Int) = ((2 ^ lo x * 285870213051353865 % 18446744073709551616 / 288230376151711744 : Nat) : Int) := by
  unfold tzAt
  rw [u64_low h0 h, IntKind.wrap_u64]
  generalize 2 ^ lo x = p
  omega
theorem tab_at {x : Nat} (h0 : x ≠ 0) (h : x < 16777216) : ∃ k : Nat, tzAt (x : Int) = (k : Int) ∧ k < 64 ∧ Lib.deBruijn64tab.getD k 0 = lo x :=
  ⟨_, tzAt_wide h0 h, Lib.deBruijn64_at (lo x) (by have := (lo_bits h0 h).2.2; omega)⟩
theorem tz64W_calls (x : Nat) (h0 : x ≠ 0) (h1 : x < 16777216) (w : World) (h : TabD w) : Calls Tryz.prog 112 #[.int .u64 (x : Int)] w fun E w' => E = .returned (.int .i64 (lo x : Int)) ∧ w' = w := by
  obtain ⟨k, e, hd, ht⟩ := tab_at h0 h1
  have hl := (lo_bits h0 h1).2.2
  have hc := h _ hd
  rw [ht] at hc
  rw [show k = (tzAt (x : Int)).toNat by rw [e]; exact (Int.toNat_natCast k).symm] at hc
  have hb : 0 ≤ tzAt (x : Int) ∧ tzAt (x : Int) < 64 := by rw [e]; omega
  have hx : ¬ (x : Int) = 0 := by omega
  clear h h0 ht
  generalize lo x = l at *
  unfold tzAt at hc hb
  obtain ⟨hb0, hb1⟩ := hb
  clear e hd
  go_enter Tryz.func112, Tryz.ntmps112
  go_wp2
  go_ret
  exact ⟨rfl, rfl⟩
theorem tzW_calls (x : Nat) (h0 : x ≠ 0) (h1 : x < 16777216) (w : World) (h : TabD w) : Calls Tryz.prog 90 #[.int .u64 (x : Int)] w fun E w' => E = .returned (.int .i64 (lo x : Int)) ∧ w' = w := by
  have H := Aside0.mk (tz64W_calls x h0 h1 w h)
  clear h h0 h1
  go_enter Tryz.func90, Tryz.ntmps90
  go_wp2_with fail
  refine (H.out).mono ?_
  rintro E w2 ⟨rfl, rfl⟩
  go_wp2
  go_ret
  exact ⟨rfl, rfl⟩
def bitsI (m : Nat) : List Int := (bitsN m).map fun (i : Nat) => (i : Int)
theorem bitsI_step {x : Nat} (h0 : x ≠ 0) (h : x < 16777216) : bitsI x = (lo x : Int) :: bitsI (x &&& (x - 1)) := by unfold bitsI; rw [bitsN_step h0 h]; rfl
theorem bitsI_len (m : Nat) : (bitsI m).length ≤ 24 := by unfold bitsI; rw [List.length_map]; exact bitsN_len m
def ListW (m : Nat) (w : World) (E : Ending) (w' : World) : Prop := ∃ (A : Option Addr) (c : Nat), E = .returned (.slice A (bitsI m).length c) ∧ (bitsI m).length ≤ c ∧ Kd.C (Kd.int .i64) w' A (bitsI m).length (bitsI m) ∧ Below w.heap.size w w'
set_option maxHeartbeats 2000000 in
theorem listW_calls (m : Nat) (hm : m < 16777216) (w : World) (h : TabD w) : Calls Tryz.prog 41 #[.int .i64 (m : Int)] w (ListW m w) := by
  have HT := Aside0.mk h
  have HM := Aside0.mk hm
  clear h hm
  go_enter Tryz.func41, Tryz.ntmps41
  go_upto_region 3 with (fail)
  rw [u64_id (by omega) (by have := HM.out; omega)]
  go_loopg [3, 4] m (fun gg v3 v4 wi => ∃ (ys : List Int) (x : Nat) (So : Nat → Prop), x ≤ gg ∧ v4 = .int .u64 x ∧ x < 16777216 ∧ Aside0 (ys ++ bitsI x = bitsI m) ∧ Aside0 (Kd.R (Kd.int .i64) 3 wi w.heap.size So v3 ys) ∧ Aside0 (Below w.heap.size w wi))
  case atStart => exact ⟨[], m, fun _ => False, by omega, rfl, HM.out, ⟨by rw [List.nil_append]⟩, ⟨Kd.R_nil _ _ _ _ _⟩, ⟨Below.refl _ _⟩⟩
  case round =>
    obtain ⟨ys, x, So, hgg, rfl, hx, HE, HR, HB⟩ := hrel
    obtain ⟨A, c, rfl⟩ := Kd.R_slice HR.out
    by_cases h0 : x = 0
    · subst h0
      have hE := HE.out
      rw [show bitsI 0 = [] by unfold bitsI; rw [bitsN_zero]; rfl, List.append_nil] at hE
      subst hE
      have hr := Kd.R_reads' HR.out
      go_wp2
      go_ret
      exact ⟨A, c, rfl, hr.2.1, hr.2.2, (HB.out)⟩
    · have h0z : ¬ (x : Int) = 0 := by omega
      have e1 := bitsI_step h0 hx
      have e2 := u64_drop h0 hx
      have e3 := drop_lt h0 hx
      have HE1 := Aside0.mk (show (ys ++ [(lo x : Int)]) ++ bitsI (x &&& (x - 1)) = bitsI m by rw [List.append_assoc, List.singleton_append, ← e1]; exact HE.out)
      have HL1 := Aside0.mk (show ys.length ≤ 24 by have h1 := congrArg List.length HE.out; rw [List.length_append] at h1; have := bitsI_len m; omega)
      have HZ := Aside0.mk (tzW_calls x h0 hx wr ((HT.out).below HB.out))
      have HE2 := Aside0.mk e2
      clear e1 e2 HE h0
      go_wp2_with fail
      refine (HZ.out).mono ?_
      rintro E w2 ⟨rfl, rfl⟩
      generalize lo x = l at *
      go_wp2_with ((with_reducible refine gate_builtin (b := .append) (xs := #[.tmp 13, .tmp 16]) rfl ?_); at_builtin; refine Kd.R_append (Kd.int .i64) (w0 := w) w.heap.size rfl (.tmp 13) (.tmp 16) 22 3 (.int .i64 0) 8 rfl Tryz.underlying22 Q.info3 rfl (by decide) (by omega) (.slice A ys.length c) ys (l : Int) [.int .i64 (l : Int)] (fun k => So k ∨ w2.heap.size ≤ k) (fun _ => False) rfl rfl rfl (fun _ hk => hk.elim) (fun k hk => .inr hk) (Kd.R_mono HR.out (fun _ hk => .inl hk)) HB.out (HB.out).size (by have := HL1.out; omega) ?_; intro v5 w5 ho5 hb5 hg5 hat5; have HR5 := Aside0.mk ho5; have HB5 := Aside0.mk hb5; clear ho5 hb5 hg5 hat5)
      go_roundg (x &&& (x - 1))
      case measure => omega
      case rel => exact ⟨ys ++ [(l : Int)], x &&& (x - 1), _, Nat.le_refl _, by rw [HE2.out], by omega, HE1, HR5, HB5⟩
end Go.Proofs.YtbmcigakiibncaaGreatDoor.H
namespace Go.Proofs
open Go.Shelf
set_option linter.unusedVariables false
def Tryz.lays170_ren : Go.Shelf.Ren := ⟨fun | 170 => 55 | n => n, fun | 70 => 73 | 3 => 3 | 0 => 0 | 72 => 76 | 37 => 74 | 5 => 5 | n => n, fun | n => n⟩
theorem Tryz.lays170 : Go.Proofs.Lays.n170 Tryz.prog Tryz.lays170_ren := {
  mixed := by kernel_rfl
  f170 := Tryz.func55.trans (congrArg some (by kernel_rfl))
  t0 := Tryz.underlying0
  a0 := Tryz.isAgg0
  z0 := Tryz.sizeOf0
  v0 := Tryz.zeroValue0
  t3 := Tryz.underlying3
  a3 := Tryz.isAgg3
  z3 := Tryz.sizeOf3
  v3 := Tryz.zeroValue3
  t37 := Tryz.underlying74
  a37 := Tryz.isAgg74
  z37 := Tryz.sizeOf74
  v37 := Tryz.zeroValue74
  t70 := Tryz.underlying73
  a70 := Tryz.isAgg73
  z70 := Tryz.sizeOf73
  v70 := Tryz.zeroValue73
  t72 := Tryz.underlying76
  a72 := Tryz.isAgg76
  z72 := Tryz.sizeOf76
  v72 := Tryz.zeroValue76 }
open Go.RowKit in
theorem Tryz.Builder_Len (B b : Nat) (bs : List Value) (w : World) (h : Lib.IsBuilder 76 5 B b bs w) :
    Calls Tryz.prog 55 #[.pointer (some ⟨b, 0, none⟩)] w fun e w' => e = .returned (.int .i64 bs.length) ∧ w' = w := Any.Builder_Len Tryz.lays170 B b bs w h
def Tryz.lays169_ren : Go.Shelf.Ren := ⟨fun | 169 => 56 | n => n, fun | 70 => 73 | 9 => 9 | 0 => 0 | 72 => 76 | 37 => 74 | 127 => 129 | 3 => 3 | 5 => 5 | n => n, fun | n => n⟩
theorem Tryz.lays169 : Go.Proofs.Lays.n169 Tryz.prog Tryz.lays169_ren := {
  mixed := by kernel_rfl
  f169 := Tryz.func56.trans (congrArg some (by kernel_rfl))
  t0 := Tryz.underlying0
  a0 := Tryz.isAgg0
  z0 := Tryz.sizeOf0
  v0 := Tryz.zeroValue0
  t3 := Tryz.underlying3
  a3 := Tryz.isAgg3
  z3 := Tryz.sizeOf3
  v3 := Tryz.zeroValue3
  t9 := Tryz.underlying9
  a9 := Tryz.isAgg9
  z9 := Tryz.sizeOf9
  v9 := Tryz.zeroValue9
  t37 := Tryz.underlying74
  a37 := Tryz.isAgg74
  z37 := Tryz.sizeOf74
  v37 := Tryz.zeroValue74
  t70 := Tryz.underlying73
  a70 := Tryz.isAgg73
  z70 := Tryz.sizeOf73
  v70 := Tryz.zeroValue73
  t72 := Tryz.underlying76
  a72 := Tryz.isAgg76
  z72 := Tryz.sizeOf76
  v72 := Tryz.zeroValue76
  t127 := Tryz.underlying129
  a127 := Tryz.isAgg129
  z127 := Tryz.sizeOf129
  v127 := Tryz.zeroValue129 }
theorem Tryz.Builder_Extra_169 : Builder.Extra Tryz.prog Tryz.lays169_ren := {
  sizeBuilder := by kernel_rfl
  liesBuilder := by kernel_rfl
  t5 := Tryz.underlying5
  a5 := Tryz.isAgg5
  z5 := Tryz.sizeOf5
  v5 := Tryz.zeroValue5
  infoByte := by kernel_rfl
  cellsByte := by kernel_rfl
  sizeByte := by kernel_rfl
  neB5 := by decide }
open Go.RowKit in
theorem Tryz.Builder_String_any (B b : Nat) (l : List UInt8) (w : World) (h : Lib.IsBuilder 76 5 B b (Lib.byteCells l) w) (hBw : B ≤ w.heap.size) :
    Calls Tryz.prog 56 #[.pointer (some ⟨b, 0, none⟩)] w fun e w' => e = .returned (.string ⟨l.toArray⟩) ∧ Below B w w' := Any.Builder_String_any Tryz.lays169 Tryz.Builder_Extra_169 B b l w h hBw
def Tryz.lays160_ren : Go.Shelf.Ren := ⟨fun | 160 => 125 | 232 => 151 | 231 => 150 | 227 => 152 | 234 => 154 | 233 => 153 | 236 => 156 | 235 => 155 | 228 => 173 | 271 => 175 | 151 => 174 | 197 => 148 | 120 => 184 | 152 => 183 | 260 => 172 | 137 => 107 | 119 => 188 | 224 => 160 | 225 => 159 | 217 => 129 | 266 => 163 | n => n, fun | 9 => 9 | 4 => 4 | 3 => 3 | 5 => 5 | 117 => 174 | 116 => 173 | 0 => 0 | 124 => 177 | 21 => 21 | 105 => 169 | 46 => 116 | 119 => 201 | 139 => 204 | 138 => 203 | n => n, fun | 3 => 4 | 4 => 5 | n => n⟩
theorem Tryz.lays160 : Go.Proofs.Lays.n160 Tryz.prog Tryz.lays160_ren := {
  mixed := by kernel_rfl
  f119 := Tryz.func188.trans (congrArg some (by kernel_rfl))
  f120 := Tryz.func184.trans (congrArg some (by kernel_rfl))
  f137 := Tryz.func107.trans (congrArg some (by kernel_rfl))
  f151 := Tryz.func174.trans (congrArg some (by kernel_rfl))
  f152 := Tryz.func183.trans (congrArg some (by kernel_rfl))
  f160 := Tryz.func125.trans (congrArg some (by kernel_rfl))
  f197 := Tryz.func148.trans (congrArg some (by kernel_rfl))
  f217 := Tryz.func129.trans (congrArg some (by kernel_rfl))
  f224 := Tryz.func160.trans (congrArg some (by kernel_rfl))
  f225 := Tryz.func159.trans (congrArg some (by kernel_rfl))
  f227 := Tryz.func152.trans (congrArg some (by kernel_rfl))
  f228 := Tryz.func173.trans (congrArg some (by kernel_rfl))
  f231 := Tryz.func150.trans (congrArg some (by kernel_rfl))
  f232 := Tryz.func151.trans (congrArg some (by kernel_rfl))
  f233 := Tryz.func153.trans (congrArg some (by kernel_rfl))
  f234 := Tryz.func154.trans (congrArg some (by kernel_rfl))
  f235 := Tryz.func155.trans (congrArg some (by kernel_rfl))
  f236 := Tryz.func156.trans (congrArg some (by kernel_rfl))
  f260 := Tryz.func172.trans (congrArg some (by kernel_rfl))
  f266 := Tryz.func163.trans (congrArg some (by kernel_rfl))
  f271 := Tryz.func175.trans (congrArg some (by kernel_rfl))
  t0 := Tryz.underlying0
  a0 := Tryz.isAgg0
  z0 := Tryz.sizeOf0
  v0 := Tryz.zeroValue0
  t3 := Tryz.underlying3
  a3 := Tryz.isAgg3
  z3 := Tryz.sizeOf3
  v3 := Tryz.zeroValue3
  t4 := Tryz.underlying4
  a4 := Tryz.isAgg4
  z4 := Tryz.sizeOf4
  v4 := Tryz.zeroValue4
  t5 := Tryz.underlying5
  a5 := Tryz.isAgg5
  z5 := Tryz.sizeOf5
  v5 := Tryz.zeroValue5
  t9 := Tryz.underlying9
  a9 := Tryz.isAgg9
  z9 := Tryz.sizeOf9
  v9 := Tryz.zeroValue9
  t21 := Tryz.underlying21
  a21 := Tryz.isAgg21
  z21 := Tryz.sizeOf21
  v21 := Tryz.zeroValue21
  t46 := Tryz.underlying116
  a46 := Tryz.isAgg116
  z46 := Tryz.sizeOf116
  v46 := Tryz.zeroValue116
  t105 := Tryz.underlying169
  a105 := Tryz.isAgg169
  z105 := Tryz.sizeOf169
  v105 := Tryz.zeroValue169
  t116 := Tryz.underlying173
  a116 := Tryz.isAgg173
  z116 := Tryz.sizeOf173
  t117 := Tryz.underlying174
  a117 := Tryz.isAgg174
  z117 := Tryz.sizeOf174
  v117 := Tryz.zeroValue174
  t119 := Tryz.underlying201
  a119 := Tryz.isAgg201
  z119 := Tryz.sizeOf201
  t124 := Tryz.underlying177
  a124 := Tryz.isAgg177
  z124 := Tryz.sizeOf177
  v124 := Tryz.zeroValue177
  t138 := Tryz.underlying203
  a138 := Tryz.isAgg203
  z138 := Tryz.sizeOf203
  v138 := Tryz.zeroValue203
  t139 := Tryz.underlying204
  a139 := Tryz.isAgg204
  z139 := Tryz.sizeOf204
  v139 := Tryz.zeroValue204
  g3 := by kernel_rfl
  g4 := by kernel_rfl }
def Tryz.lays137_ren : Go.Shelf.Ren := ⟨fun | 137 => 107 | 217 => 129 | 266 => 163 | n => n, fun | 9 => 9 | 5 => 5 | 3 => 3 | n => n, fun | n => n⟩
theorem Tryz.lays137 : Go.Proofs.Lays.n137 Tryz.prog Tryz.lays137_ren := {
  mixed := by kernel_rfl
  f137 := Tryz.func107.trans (congrArg some (by kernel_rfl))
  f217 := Tryz.func129.trans (congrArg some (by kernel_rfl))
  f266 := Tryz.func163.trans (congrArg some (by kernel_rfl))
  t3 := Tryz.underlying3
  a3 := Tryz.isAgg3
  z3 := Tryz.sizeOf3
  v3 := Tryz.zeroValue3
  t5 := Tryz.underlying5
  a5 := Tryz.isAgg5
  z5 := Tryz.sizeOf5
  v5 := Tryz.zeroValue5
  t9 := Tryz.underlying9
  a9 := Tryz.isAgg9
  z9 := Tryz.sizeOf9
  v9 := Tryz.zeroValue9 }
open Go.RowKit in
theorem Tryz.strings_IndexByte (s : ByteArray) (c : Int) (w : World) :
    Calls Tryz.prog 107 #[.string s, .int .u8 c] w fun e w' => e = .returned (.int .i64 (Lib.indexByte s.data.toList c.toNat.toUInt8)) ∧ w' = w := Any.strings_IndexByte Tryz.lays137 s c w
def Tryz.lays103_ren : Go.Shelf.Ren := ⟨fun | 103 => 106 | 210 => 128 | 206 => 162 | n => n, fun | 9 => 9 | 4 => 4 | 24 => 133 | 3 => 3 | n => n, fun | n => n⟩
theorem Tryz.lays103 : Go.Proofs.Lays.n103 Tryz.prog Tryz.lays103_ren := {
  mixed := by kernel_rfl
  f103 := Tryz.func106.trans (congrArg some (by kernel_rfl))
  f206 := Tryz.func162.trans (congrArg some (by kernel_rfl))
  f210 := Tryz.func128.trans (congrArg some (by kernel_rfl))
  t3 := Tryz.underlying3
  a3 := Tryz.isAgg3
  z3 := Tryz.sizeOf3
  v3 := Tryz.zeroValue3
  t4 := Tryz.underlying4
  a4 := Tryz.isAgg4
  z4 := Tryz.sizeOf4
  v4 := Tryz.zeroValue4
  t9 := Tryz.underlying9
  a9 := Tryz.isAgg9
  z9 := Tryz.sizeOf9
  v9 := Tryz.zeroValue9
  t24 := Tryz.underlying133
  a24 := Tryz.isAgg133
  z24 := Tryz.sizeOf133
  v24 := Tryz.zeroValue133 }
open Go.RowKit in
theorem Tryz.strings_CutPrefix (s p : ByteArray) (w : World) :
    Calls Tryz.prog 106 #[.string s, .string p] w fun e w' => e = .returned (.tuple #[.string ⟨(Lib.trimPrefix s.data.toList p.data.toList).toArray⟩, .bool (Lib.hasPrefix s.data.toList p.data.toList)]) ∧ w' = w := Any.strings_CutPrefix Tryz.lays103 s p w
def Tryz.lays172_ren : Go.Shelf.Ren := ⟨fun | 172 => 126 | 244 => 157 | 245 => 158 | 247 => 176 | 279 => 177 | 280 => 178 | 281 => 179 | 282 => 180 | 287 => 185 | 316 => 186 | 171 => 53 | 205 => 187 | 321 => 189 | 322 => 190 | 243 => 101 | 246 => 121 | 283 => 143 | 284 => 144 | 285 => 145 | 286 => 146 | 129 => 142 | 317 => 169 | 318 => 170 | 319 => 171 | 320 => 90 | 337 => 111 | 338 => 112 | n => n, fun | 9 => 9 | 3 => 3 | 75 => 78 | 76 => 79 | 4 => 4 | 5 => 5 | 167 => 191 | 37 => 74 | 0 => 0 | 85 => 192 | 2 => 2 | 168 => 194 | 53 => 143 | 175 => 206 | 46 => 116 | 210 => 210 | 127 => 129 | 145 => 216 | 143 => 214 | 21 => 21 | 171 => 165 | 173 => 167 | 212 => 187 | 51 => 141 | 20 => 20 | 213 => 188 | 232 => 155 | 233 => 156 | 80 => 86 | n => n, fun | 15 => 6 | 16 => 7 | 17 => 3 | 18 => 0 | 19 => 1 | n => n⟩
theorem Tryz.lays172 : Go.Proofs.Lays.n172 Tryz.prog Tryz.lays172_ren := {
  mixed := by kernel_rfl
  f129 := Tryz.func142.trans (congrArg some (by kernel_rfl))
  f171 := Tryz.func53.trans (congrArg some (by kernel_rfl))
  f172 := Tryz.func126.trans (congrArg some (by kernel_rfl))
  f205 := Tryz.func187.trans (congrArg some (by kernel_rfl))
  f243 := Tryz.func101.trans (congrArg some (by kernel_rfl))
  f244 := Tryz.func157.trans (congrArg some (by kernel_rfl))
  f245 := Tryz.func158.trans (congrArg some (by kernel_rfl))
  f246 := Tryz.func121.trans (congrArg some (by kernel_rfl))
  f247 := Tryz.func176.trans (congrArg some (by kernel_rfl))
  f279 := Tryz.func177.trans (congrArg some (by kernel_rfl))
  f280 := Tryz.func178.trans (congrArg some (by kernel_rfl))
  f281 := Tryz.func179.trans (congrArg some (by kernel_rfl))
  f282 := Tryz.func180.trans (congrArg some (by kernel_rfl))
  f283 := Tryz.func143.trans (congrArg some (by kernel_rfl))
  f284 := Tryz.func144.trans (congrArg some (by kernel_rfl))
  f285 := Tryz.func145.trans (congrArg some (by kernel_rfl))
  f286 := Tryz.func146.trans (congrArg some (by kernel_rfl))
  f287 := Tryz.func185.trans (congrArg some (by kernel_rfl))
  f316 := Tryz.func186.trans (congrArg some (by kernel_rfl))
  f317 := Tryz.func169.trans (congrArg some (by kernel_rfl))
  f318 := Tryz.func170.trans (congrArg some (by kernel_rfl))
  f319 := Tryz.func171.trans (congrArg some (by kernel_rfl))
  f320 := Tryz.func90.trans (congrArg some (by kernel_rfl))
  f321 := Tryz.func189.trans (congrArg some (by kernel_rfl))
  f322 := Tryz.func190.trans (congrArg some (by kernel_rfl))
  f337 := Tryz.func111.trans (congrArg some (by kernel_rfl))
  f338 := Tryz.func112.trans (congrArg some (by kernel_rfl))
  t0 := Tryz.underlying0
  a0 := Tryz.isAgg0
  z0 := Tryz.sizeOf0
  v0 := Tryz.zeroValue0
  t2 := Tryz.underlying2
  a2 := Tryz.isAgg2
  z2 := Tryz.sizeOf2
  v2 := Tryz.zeroValue2
  t3 := Tryz.underlying3
  a3 := Tryz.isAgg3
  z3 := Tryz.sizeOf3
  v3 := Tryz.zeroValue3
  t4 := Tryz.underlying4
  a4 := Tryz.isAgg4
  z4 := Tryz.sizeOf4
  v4 := Tryz.zeroValue4
  t5 := Tryz.underlying5
  a5 := Tryz.isAgg5
  z5 := Tryz.sizeOf5
  v5 := Tryz.zeroValue5
  t9 := Tryz.underlying9
  a9 := Tryz.isAgg9
  z9 := Tryz.sizeOf9
  v9 := Tryz.zeroValue9
  t20 := Tryz.underlying20
  a20 := Tryz.isAgg20
  z20 := Tryz.sizeOf20
  v20 := Tryz.zeroValue20
  t21 := Tryz.underlying21
  a21 := Tryz.isAgg21
  z21 := Tryz.sizeOf21
  v21 := Tryz.zeroValue21
  t37 := Tryz.underlying74
  a37 := Tryz.isAgg74
  z37 := Tryz.sizeOf74
  v37 := Tryz.zeroValue74
  t46 := Tryz.underlying116
  a46 := Tryz.isAgg116
  z46 := Tryz.sizeOf116
  v46 := Tryz.zeroValue116
  t51 := Tryz.underlying141
  a51 := Tryz.isAgg141
  z51 := Tryz.sizeOf141
  v51 := Tryz.zeroValue141
  t53 := Tryz.underlying143
  a53 := Tryz.isAgg143
  z53 := Tryz.sizeOf143
  v53 := Tryz.zeroValue143
  t75 := Tryz.underlying78
  a75 := Tryz.isAgg78
  z75 := Tryz.sizeOf78
  v75 := Tryz.zeroValue78
  t76 := Tryz.underlying79
  a76 := Tryz.isAgg79
  z76 := Tryz.sizeOf79
  v76 := Tryz.zeroValue79
  t85 := Tryz.underlying192
  a85 := Tryz.isAgg192
  z85 := Tryz.sizeOf192
  v85 := Tryz.zeroValue192
  t127 := Tryz.underlying129
  a127 := Tryz.isAgg129
  z127 := Tryz.sizeOf129
  v127 := Tryz.zeroValue129
  t143 := Tryz.underlying214
  a143 := Tryz.isAgg214
  z143 := Tryz.sizeOf214
  v143 := Tryz.zeroValue214
  t145 := Tryz.underlying216
  a145 := Tryz.isAgg216
  z145 := Tryz.sizeOf216
  v145 := Tryz.zeroValue216
  t167 := Tryz.underlying191
  a167 := Tryz.isAgg191
  z167 := Tryz.sizeOf191
  v167 := Tryz.zeroValue191
  t168 := Tryz.underlying194
  a168 := Tryz.isAgg194
  z168 := Tryz.sizeOf194
  v168 := Tryz.zeroValue194
  t171 := Tryz.underlying165
  a171 := Tryz.isAgg165
  z171 := Tryz.sizeOf165
  v171 := Tryz.zeroValue165
  t173 := Tryz.underlying167
  a173 := Tryz.isAgg167
  z173 := Tryz.sizeOf167
  v173 := Tryz.zeroValue167
  t175 := Tryz.underlying206
  a175 := Tryz.isAgg206
  z175 := Tryz.sizeOf206
  v175 := Tryz.zeroValue206
  t210 := Tryz.underlying210
  a210 := Tryz.isAgg210
  z210 := Tryz.sizeOf210
  v210 := Tryz.zeroValue210
  t212 := Tryz.underlying187
  a212 := Tryz.isAgg187
  z212 := Tryz.sizeOf187
  v212 := Tryz.zeroValue187
  t213 := Tryz.underlying188
  a213 := Tryz.isAgg188
  z213 := Tryz.sizeOf188
  t232 := Tryz.underlying155
  a232 := Tryz.isAgg155
  z232 := Tryz.sizeOf155
  v232 := Tryz.zeroValue155
  t233 := Tryz.underlying156
  a233 := Tryz.isAgg156
  z233 := Tryz.sizeOf156
  v233 := Tryz.zeroValue156
  g15 := by kernel_rfl
  g16 := by kernel_rfl
  g17 := by kernel_rfl
  g18 := by kernel_rfl
  g19 := by kernel_rfl }
open Go.RowKit in
theorem Tryz.strconv_Atoi (s : ByteArray) (n : Int) (hl : s.size ≤ 18) (h : Lib.atoi s.data.toList = some n) (w : World) :
    Calls Tryz.prog 126 #[.string s] w fun e w' => e = .returned (.tuple #[.int .i64 n, .nilIface]) ∧ ∃ t, w' = Lib.bytesWorld w 5 t := Any.strconv_Atoi Tryz.lays172 s n hl h w
def Tryz.lays171_ren : Go.Shelf.Ren := ⟨fun | 171 => 53 | 243 => 101 | 246 => 121 | 283 => 143 | 284 => 144 | 285 => 145 | 286 => 146 | 129 => 142 | 317 => 169 | 318 => 170 | 319 => 171 | 320 => 90 | 337 => 111 | 338 => 112 | n => n, fun | 3 => 3 | 9 => 9 | 2 => 2 | 4 => 4 | 171 => 165 | 0 => 0 | 53 => 143 | 37 => 74 | 5 => 5 | 173 => 167 | 212 => 187 | 51 => 141 | 20 => 20 | 213 => 188 | 46 => 116 | 232 => 155 | 233 => 156 | n => n, fun | 17 => 3 | 18 => 0 | 19 => 1 | n => n⟩
theorem Tryz.lays171 : Go.Proofs.Lays.n171 Tryz.prog Tryz.lays171_ren := {
  mixed := by kernel_rfl
  f129 := Tryz.func142.trans (congrArg some (by kernel_rfl))
  f171 := Tryz.func53.trans (congrArg some (by kernel_rfl))
  f243 := Tryz.func101.trans (congrArg some (by kernel_rfl))
  f246 := Tryz.func121.trans (congrArg some (by kernel_rfl))
  f283 := Tryz.func143.trans (congrArg some (by kernel_rfl))
  f284 := Tryz.func144.trans (congrArg some (by kernel_rfl))
  f285 := Tryz.func145.trans (congrArg some (by kernel_rfl))
  f286 := Tryz.func146.trans (congrArg some (by kernel_rfl))
  f317 := Tryz.func169.trans (congrArg some (by kernel_rfl))
  f318 := Tryz.func170.trans (congrArg some (by kernel_rfl))
  f319 := Tryz.func171.trans (congrArg some (by kernel_rfl))
  f320 := Tryz.func90.trans (congrArg some (by kernel_rfl))
  f337 := Tryz.func111.trans (congrArg some (by kernel_rfl))
  f338 := Tryz.func112.trans (congrArg some (by kernel_rfl))
  t0 := Tryz.underlying0
  a0 := Tryz.isAgg0
  z0 := Tryz.sizeOf0
  v0 := Tryz.zeroValue0
  t2 := Tryz.underlying2
  a2 := Tryz.isAgg2
  z2 := Tryz.sizeOf2
  v2 := Tryz.zeroValue2
  t3 := Tryz.underlying3
  a3 := Tryz.isAgg3
  z3 := Tryz.sizeOf3
  v3 := Tryz.zeroValue3
  t4 := Tryz.underlying4
  a4 := Tryz.isAgg4
  z4 := Tryz.sizeOf4
  v4 := Tryz.zeroValue4
  t5 := Tryz.underlying5
  a5 := Tryz.isAgg5
  z5 := Tryz.sizeOf5
  v5 := Tryz.zeroValue5
  t9 := Tryz.underlying9
  a9 := Tryz.isAgg9
  z9 := Tryz.sizeOf9
  v9 := Tryz.zeroValue9
  t20 := Tryz.underlying20
  a20 := Tryz.isAgg20
  z20 := Tryz.sizeOf20
  v20 := Tryz.zeroValue20
  t37 := Tryz.underlying74
  a37 := Tryz.isAgg74
  z37 := Tryz.sizeOf74
  v37 := Tryz.zeroValue74
  t46 := Tryz.underlying116
  a46 := Tryz.isAgg116
  z46 := Tryz.sizeOf116
  v46 := Tryz.zeroValue116
  t51 := Tryz.underlying141
  a51 := Tryz.isAgg141
  z51 := Tryz.sizeOf141
  v51 := Tryz.zeroValue141
  t53 := Tryz.underlying143
  a53 := Tryz.isAgg143
  z53 := Tryz.sizeOf143
  v53 := Tryz.zeroValue143
  t171 := Tryz.underlying165
  a171 := Tryz.isAgg165
  z171 := Tryz.sizeOf165
  v171 := Tryz.zeroValue165
  t173 := Tryz.underlying167
  a173 := Tryz.isAgg167
  z173 := Tryz.sizeOf167
  v173 := Tryz.zeroValue167
  t212 := Tryz.underlying187
  a212 := Tryz.isAgg187
  z212 := Tryz.sizeOf187
  v212 := Tryz.zeroValue187
  t213 := Tryz.underlying188
  a213 := Tryz.isAgg188
  z213 := Tryz.sizeOf188
  t232 := Tryz.underlying155
  a232 := Tryz.isAgg155
  z232 := Tryz.sizeOf155
  v232 := Tryz.zeroValue155
  t233 := Tryz.underlying156
  a233 := Tryz.isAgg156
  z233 := Tryz.sizeOf156
  v233 := Tryz.zeroValue156
  g17 := by kernel_rfl
  g18 := by kernel_rfl
  g19 := by kernel_rfl }
open Go.RowKit Go.Sort Go.Lib in
theorem Tryz.strconv_Itoa_small (i : Nat) (hi : i < 100) (w : World) :
    Calls Tryz.prog 53 #[.int .i64 i] w fun e w' => e = .returned (.string ⟨(Lib.decDigits i).toArray⟩) ∧ w' = w := Any.strconv_Itoa_small Tryz.lays171 i hi w
def Tryz.lays145_ren : Go.Shelf.Ren := ⟨fun | 145 => 62 | 220 => 105 | 219 => 127 | 217 => 129 | 225 => 159 | 224 => 160 | 267 => 161 | 266 => 163 | 314 => 181 | n => n, fun | 9 => 9 | 4 => 4 | 59 => 94 | 3 => 3 | 5 => 5 | 46 => 116 | 146 => 197 | 51 => 141 | n => n, fun | 1 => 2 | n => n⟩
theorem Tryz.lays145 : Go.Proofs.Lays.n145 Tryz.prog Tryz.lays145_ren := {
  mixed := by kernel_rfl
  f145 := Tryz.func62.trans (congrArg some (by kernel_rfl))
  f217 := Tryz.func129.trans (congrArg some (by kernel_rfl))
  f219 := Tryz.func127.trans (congrArg some (by kernel_rfl))
  f220 := Tryz.func105.trans (congrArg some (by kernel_rfl))
  f224 := Tryz.func160.trans (congrArg some (by kernel_rfl))
  f225 := Tryz.func159.trans (congrArg some (by kernel_rfl))
  f266 := Tryz.func163.trans (congrArg some (by kernel_rfl))
  f267 := Tryz.func161.trans (congrArg some (by kernel_rfl))
  f314 := Tryz.func181.trans (congrArg some (by kernel_rfl))
  t3 := Tryz.underlying3
  a3 := Tryz.isAgg3
  z3 := Tryz.sizeOf3
  v3 := Tryz.zeroValue3
  t4 := Tryz.underlying4
  a4 := Tryz.isAgg4
  z4 := Tryz.sizeOf4
  v4 := Tryz.zeroValue4
  t5 := Tryz.underlying5
  a5 := Tryz.isAgg5
  z5 := Tryz.sizeOf5
  v5 := Tryz.zeroValue5
  t9 := Tryz.underlying9
  a9 := Tryz.isAgg9
  z9 := Tryz.sizeOf9
  v9 := Tryz.zeroValue9
  t46 := Tryz.underlying116
  a46 := Tryz.isAgg116
  z46 := Tryz.sizeOf116
  v46 := Tryz.zeroValue116
  t51 := Tryz.underlying141
  a51 := Tryz.isAgg141
  z51 := Tryz.sizeOf141
  v51 := Tryz.zeroValue141
  t59 := Tryz.underlying94
  a59 := Tryz.isAgg94
  z59 := Tryz.sizeOf94
  v59 := Tryz.zeroValue94
  t146 := Tryz.underlying197
  a146 := Tryz.isAgg197
  z146 := Tryz.sizeOf197
  v146 := Tryz.zeroValue197
  g1 := by kernel_rfl }
open Go.RowKit Go.Lib in
theorem Tryz.strings_Cut (s sep : ByteArray) (m : Int) (w : World) (hs : s.size < 4294967281) (hm : w.cell? ⟨2, 0, none⟩ = some (.int .i64 m)) :
    Calls Tryz.prog 62 #[.string s, .string sep] w fun e w' => e = .returned (.tuple #[.string ⟨(Lib.cut s.data.toList sep.data.toList).1.toArray⟩, .string ⟨(Lib.cut s.data.toList sep.data.toList).2.1.toArray⟩, .bool (Lib.cut s.data.toList sep.data.toList).2.2]) ∧ ∃ n, w' = w.drewN n := Any.strings_Cut Tryz.lays145 s sep m w hs hm
def Tryz.lays146_ren : Go.Shelf.Ren := ⟨fun | 146 => 59 | 221 => 103 | 268 => 122 | 138 => 123 | 143 => 124 | 195 => 147 | 197 => 148 | 218 => 149 | 219 => 127 | 260 => 172 | 217 => 129 | 225 => 159 | 224 => 160 | 267 => 161 | 266 => 163 | 314 => 181 | n => n, fun | 9 => 9 | 31 => 91 | 3 => 3 | 4 => 4 | 0 => 0 | 105 => 169 | 21 => 21 | 5 => 5 | 46 => 116 | 119 => 201 | 139 => 204 | 138 => 203 | 146 => 197 | 51 => 141 | n => n, fun | 1 => 2 | 3 => 4 | 4 => 5 | n => n⟩
theorem Tryz.lays146 : Go.Proofs.Lays.n146 Tryz.prog Tryz.lays146_ren := {
  mixed := by kernel_rfl
  f138 := Tryz.func123.trans (congrArg some (by kernel_rfl))
  f143 := Tryz.func124.trans (congrArg some (by kernel_rfl))
  f146 := Tryz.func59.trans (congrArg some (by kernel_rfl))
  f195 := Tryz.func147.trans (congrArg some (by kernel_rfl))
  f197 := Tryz.func148.trans (congrArg some (by kernel_rfl))
  f217 := Tryz.func129.trans (congrArg some (by kernel_rfl))
  f218 := Tryz.func149.trans (congrArg some (by kernel_rfl))
  f219 := Tryz.func127.trans (congrArg some (by kernel_rfl))
  f221 := Tryz.func103.trans (congrArg some (by kernel_rfl))
  f224 := Tryz.func160.trans (congrArg some (by kernel_rfl))
  f225 := Tryz.func159.trans (congrArg some (by kernel_rfl))
  f260 := Tryz.func172.trans (congrArg some (by kernel_rfl))
  f266 := Tryz.func163.trans (congrArg some (by kernel_rfl))
  f267 := Tryz.func161.trans (congrArg some (by kernel_rfl))
  f268 := Tryz.func122.trans (congrArg some (by kernel_rfl))
  f314 := Tryz.func181.trans (congrArg some (by kernel_rfl))
  t0 := Tryz.underlying0
  a0 := Tryz.isAgg0
  z0 := Tryz.sizeOf0
  v0 := Tryz.zeroValue0
  t3 := Tryz.underlying3
  a3 := Tryz.isAgg3
  z3 := Tryz.sizeOf3
  v3 := Tryz.zeroValue3
  t4 := Tryz.underlying4
  a4 := Tryz.isAgg4
  z4 := Tryz.sizeOf4
  v4 := Tryz.zeroValue4
  t5 := Tryz.underlying5
  a5 := Tryz.isAgg5
  z5 := Tryz.sizeOf5
  v5 := Tryz.zeroValue5
  t9 := Tryz.underlying9
  a9 := Tryz.isAgg9
  z9 := Tryz.sizeOf9
  v9 := Tryz.zeroValue9
  t21 := Tryz.underlying21
  a21 := Tryz.isAgg21
  z21 := Tryz.sizeOf21
  v21 := Tryz.zeroValue21
  t31 := Tryz.underlying91
  a31 := Tryz.isAgg91
  z31 := Tryz.sizeOf91
  v31 := Tryz.zeroValue91
  t46 := Tryz.underlying116
  a46 := Tryz.isAgg116
  z46 := Tryz.sizeOf116
  v46 := Tryz.zeroValue116
  t51 := Tryz.underlying141
  a51 := Tryz.isAgg141
  z51 := Tryz.sizeOf141
  v51 := Tryz.zeroValue141
  t105 := Tryz.underlying169
  a105 := Tryz.isAgg169
  z105 := Tryz.sizeOf169
  v105 := Tryz.zeroValue169
  t119 := Tryz.underlying201
  a119 := Tryz.isAgg201
  z119 := Tryz.sizeOf201
  t138 := Tryz.underlying203
  a138 := Tryz.isAgg203
  z138 := Tryz.sizeOf203
  v138 := Tryz.zeroValue203
  t139 := Tryz.underlying204
  a139 := Tryz.isAgg204
  z139 := Tryz.sizeOf204
  v139 := Tryz.zeroValue204
  t146 := Tryz.underlying197
  a146 := Tryz.isAgg197
  z146 := Tryz.sizeOf197
  v146 := Tryz.zeroValue197
  g1 := by kernel_rfl
  g3 := by kernel_rfl
  g4 := by kernel_rfl }
open Go.RowKit Go.Lib in
theorem Tryz.strings_Split (s sep : ByteArray) (m : Int) (w : World) (hs : s.size < 4294967281) (hm : w.cell? ⟨2, 0, none⟩ = some (.int .i64 m)) (h1 : 1 ≤ sep.size) :
    Calls Tryz.prog 59 #[.string s, .string sep] w fun e w' =>
      e = .returned (.slice (some ⟨w.heap.size, 0, none⟩) (Lib.countB s sep + 1) (Lib.countB s sep + 1)) ∧ w' = w.alloc (.cells ((Lib.splitB sep 0 (Lib.countB s sep) s).map Value.string).toArray 9) := Any.strings_Split Tryz.lays146 (by kernel_rfl) s sep m w hs hm h1
def Tryz.laysNm215_ren : Go.Shelf.Ren := ⟨fun | 15 => 49 | n => n, fun | 22 => 22 | 3 => 3 | 4 => 4 | n => n, fun | n => n⟩
theorem Tryz.laysNm215 : Go.Proofs.Lays2.n15 Tryz.prog Tryz.laysNm215_ren := {
  mixed := by kernel_rfl
  f15 := Tryz.func49.trans (congrArg some (by kernel_rfl))
  t3 := Tryz.underlying3
  a3 := Tryz.isAgg3
  z3 := Tryz.sizeOf3
  v3 := Tryz.zeroValue3
  t4 := Tryz.underlying4
  a4 := Tryz.isAgg4
  z4 := Tryz.sizeOf4
  v4 := Tryz.zeroValue4
  t22 := Tryz.underlying22
  a22 := Tryz.isAgg22
  z22 := Tryz.sizeOf22
  v22 := Tryz.zeroValue22
  i3 := by kernel_rfl }
open Go.RowKit Go.Lib in
theorem Tryz.slices_Clone_int (b off n c : Nat) (zs : List Int) (w : World) (hz : n ≤ zs.length) (hbig : n * 8 ≤ 140737488355328) (hc : ∀ j, j < zs.length → w.cell? ⟨b, off + j, none⟩ = some (.int .i64 (zs.getD j 0))) :
    Calls Tryz.prog 49 #[.slice (some ⟨b, off, none⟩) n c] w fun e w' => ∃ v', e = .returned v' ∧ w'.ownsRow w.heap.size 3 1 v' n ((zs.take n).map (Value.int .i64)) ∧ v' ≠ .slice none 0 0 ∧ Below w.heap.size w w' := Any.slices_Clone_int Tryz.laysNm215 b off n c zs w hz hbig hc
open Go.RowKit Go.Lib in
theorem Tryz.slices_Clone_int_nil (n c : Nat) (w : World) :
    Calls Tryz.prog 49 #[.slice none n c] w fun e w' => e = .returned (.slice none 0 0) ∧ w' = w := Any.slices_Clone_int_nil Tryz.laysNm215 n c w
def Tryz.laysSlH6_f116_ren : Go.Shelf.Ren := ⟨fun | 6 => 116 | n => n, fun | 22 => 22 | 23 => 3 | 25 => 144 | 3 => 3 | 0 => 0 | 4 => 4 | n => n, fun | n => n⟩
theorem Tryz.laysSlH6_f116 : Go.Proofs.SlLaysH.n6 Tryz.prog Tryz.laysSlH6_f116_ren := {
  mixed := by kernel_rfl
  f6 := ⟨Tryz.f116.name, by decide, Tryz.func116.trans (congrArg some (by kernel_rfl))⟩
  t0 := Tryz.underlying0
  a0 := Tryz.isAgg0
  z0 := Tryz.sizeOf0
  v0 := Tryz.zeroValue0
  t3 := Tryz.underlying3
  a3 := Tryz.isAgg3
  z3 := Tryz.sizeOf3
  v3 := Tryz.zeroValue3
  t4 := Tryz.underlying4
  a4 := Tryz.isAgg4
  z4 := Tryz.sizeOf4
  v4 := Tryz.zeroValue4
  t22 := Tryz.underlying22
  a22 := Tryz.isAgg22
  z22 := Tryz.sizeOf22
  v22 := Tryz.zeroValue22
  a23 := Tryz.isAgg3
  z23 := Tryz.sizeOf3
  t25 := Tryz.underlying144
  a25 := Tryz.isAgg144
  z25 := Tryz.sizeOf144
  v25 := Tryz.zeroValue144 }
open Go.RowKit Go.Lib in
theorem Tryz.slices_IndexFunc {α : Type} [Inhabited α] (enc : α → Value) (p : α → Bool) (g : Nat) (lb : Array Value) (eg : ∀ args w, (callFunc g args).run Tryz.prog w = .ok (.enter g args) w) (b off n c : Nat) (zs : List α) (w : World) (hp : PredAt Tryz.prog g lb enc p w) (hz : n ≤ zs.length) (hbig : n ≤ 9223372036854775807) (hc : ∀ j, j < zs.length → w.cell? ⟨b, off + j, none⟩ = some (enc zs[j]!)) :
    Calls Tryz.prog 116 #[.slice (some ⟨b, off, none⟩) n c, .func (.func g) #[] lb] w fun e w' => e = .returned (.int .i64 (Lib.idxBy (fun _ y => p y) (zs.take n) default)) ∧ ∃ q, w' = w.drewN q := AnyE.slices_IndexFunc Tryz.laysSlH6_f116 enc p g lb eg b off n c zs w hp hz hbig hc
def Tryz.laysSlH8_f131_ren : Go.Shelf.Ren := ⟨fun | 8 => 131 | 6 => 116 | n => n, fun | 22 => 22 | 23 => 3 | 25 => 144 | 4 => 4 | 3 => 3 | 0 => 0 | n => n, fun | n => n⟩
theorem Tryz.laysSlH8_f131 : Go.Proofs.SlLaysH.n8 Tryz.prog Tryz.laysSlH8_f131_ren := {
  mixed := by kernel_rfl
  f6 := ⟨Tryz.f116.name, by decide, Tryz.func116.trans (congrArg some (by kernel_rfl))⟩
  f8 := ⟨Tryz.f131.name, by decide, Tryz.func131.trans (congrArg some (by kernel_rfl))⟩
  t0 := Tryz.underlying0
  a0 := Tryz.isAgg0
  z0 := Tryz.sizeOf0
  v0 := Tryz.zeroValue0
  t3 := Tryz.underlying3
  a3 := Tryz.isAgg3
  z3 := Tryz.sizeOf3
  v3 := Tryz.zeroValue3
  t4 := Tryz.underlying4
  a4 := Tryz.isAgg4
  z4 := Tryz.sizeOf4
  v4 := Tryz.zeroValue4
  t22 := Tryz.underlying22
  a22 := Tryz.isAgg22
  z22 := Tryz.sizeOf22
  v22 := Tryz.zeroValue22
  a23 := Tryz.isAgg3
  z23 := Tryz.sizeOf3
  t25 := Tryz.underlying144
  a25 := Tryz.isAgg144
  z25 := Tryz.sizeOf144
  v25 := Tryz.zeroValue144 }
open Go.RowKit Go.Lib in
theorem Tryz.slices_ContainsFunc {α : Type} [Inhabited α] (enc : α → Value) (p : α → Bool) (g : Nat) (lb : Array Value) (eg : ∀ args w, (callFunc g args).run Tryz.prog w = .ok (.enter g args) w) (b off n c : Nat) (zs : List α) (w : World) (hp : PredAt Tryz.prog g lb enc p w) (hz : n ≤ zs.length) (hbig : n ≤ 9223372036854775807) (hc : ∀ j, j < zs.length → w.cell? ⟨b, off + j, none⟩ = some (enc zs[j]!)) :
    Calls Tryz.prog 131 #[.slice (some ⟨b, off, none⟩) n c, .func (.func g) #[] lb] w fun e w' => e = .returned (.bool ((zs.take n).any p)) ∧ ∃ q, w' = w.drewN q := AnyE.slices_ContainsFunc Tryz.laysSlH8_f131 enc p g lb eg b off n c zs w hp hz hbig hc
open Go.RowKit in
theorem Tryz.trim_digits (s : ByteArray) (w : World) (hs : s.size ≤ 9223372036854775807) :
    Calls Tryz.prog 125 #[.string s, .string ⟨#[48, 49, 50, 51, 52, 53, 54, 55, 56, 57]⟩] w fun e w' => e = .returned (.string ⟨(Lib.trimS s.data.toList [48, 49, 50, 51, 52, 53, 54, 55, 56, 57]).toArray⟩) ∧ Below w.heap.size w w' :=
  Any.strings_Trim_laid Tryz.lays160 (by kernel_rfl) s ⟨#[48, 49, 50, 51, 52, 53, 54, 55, 56, 57]⟩ w hs (by decide) (ascii_of_all (by decide))
end Go.Proofs
namespace Go.Proofs
open Go.Shelf
set_option linter.unusedVariables false
def Tryz.sortN_ren : Go.Shelf.Ren := ⟨fun | 6 => 97 | 15 => 119 | 14 => 118 | 28 => 141 | 29 => 142 | 20 => 133 | 21 => 134 | 22 => 135 | 23 => 136 | 24 => 137 | 25 => 138 | 26 => 139 | 27 => 140 | 46 => 164 | 47 => 165 | 48 => 166 | 49 => 167 | 50 => 168 | 57 => 182 | n => n, fun | 22 => 66 | 24 => 69 | 25 => 109 | 3 => 3 | 39 => 116 | 0 => 0 | 53 => 141 | 55 => 143 | 4 => 4 | 46 => 160 | 45 => 159 | 50 => 131 | 5 => 5 | 9 => 9 | 66 => 181 | 70 => 154 | 76 => 199 | 77 => 138 | n => n, fun | n => n⟩
theorem Tryz.sortN : Go.Proofs.SlLaysF.n6 Tryz.prog Tryz.sortN_ren := {
  mixed := by kernel_rfl
  f6 := ⟨Tryz.f97.name, by decide, Tryz.func97.trans (congrArg some (by kernel_rfl))⟩
  f14 := ⟨Tryz.f118.name, by decide, Tryz.func118.trans (congrArg some (by kernel_rfl))⟩
  f15 := Tryz.func119.trans (congrArg some (by kernel_rfl))
  f20 := ⟨Tryz.f133.name, by decide, Tryz.func133.trans (congrArg some (by kernel_rfl))⟩
  f21 := ⟨Tryz.f134.name, by decide, Tryz.func134.trans (congrArg some (by kernel_rfl))⟩
  f22 := ⟨Tryz.f135.name, by decide, Tryz.func135.trans (congrArg some (by kernel_rfl))⟩
  f23 := ⟨Tryz.f136.name, by decide, Tryz.func136.trans (congrArg some (by kernel_rfl))⟩
  f24 := ⟨Tryz.f137.name, by decide, Tryz.func137.trans (congrArg some (by kernel_rfl))⟩
  f25 := ⟨Tryz.f138.name, by decide, Tryz.func138.trans (congrArg some (by kernel_rfl))⟩
  f26 := ⟨Tryz.f139.name, by decide, Tryz.func139.trans (congrArg some (by kernel_rfl))⟩
  f27 := ⟨Tryz.f140.name, by decide, Tryz.func140.trans (congrArg some (by kernel_rfl))⟩
  f28 := Tryz.func141.trans (congrArg some (by kernel_rfl))
  f29 := Tryz.func142.trans (congrArg some (by kernel_rfl))
  f46 := ⟨Tryz.f164.name, by decide, Tryz.func164.trans (congrArg some (by kernel_rfl))⟩
  f47 := Tryz.func165.trans (congrArg some (by kernel_rfl))
  f48 := Tryz.func166.trans (congrArg some (by kernel_rfl))
  f49 := ⟨Tryz.f167.name, by decide, Tryz.func167.trans (congrArg some (by kernel_rfl))⟩
  f50 := ⟨Tryz.f168.name, by decide, Tryz.func168.trans (congrArg some (by kernel_rfl))⟩
  f57 := ⟨Tryz.f182.name, by decide, Tryz.func182.trans (congrArg some (by kernel_rfl))⟩
  t0 := Tryz.underlying0
  a0 := Tryz.isAgg0
  z0 := Tryz.sizeOf0
  v0 := Tryz.zeroValue0
  t3 := Tryz.underlying3
  a3 := Tryz.isAgg3
  z3 := Tryz.sizeOf3
  v3 := Tryz.zeroValue3
  t4 := Tryz.underlying4
  a4 := Tryz.isAgg4
  z4 := Tryz.sizeOf4
  v4 := Tryz.zeroValue4
  t5 := Tryz.underlying5
  a5 := Tryz.isAgg5
  z5 := Tryz.sizeOf5
  v5 := Tryz.zeroValue5
  t9 := Tryz.underlying9
  a9 := Tryz.isAgg9
  z9 := Tryz.sizeOf9
  v9 := Tryz.zeroValue9
  t22 := Tryz.underlying66
  a22 := Tryz.isAgg66
  z22 := Tryz.sizeOf66
  v22 := Tryz.zeroValue66
  a24 := Tryz.isAgg69
  z24 := Tryz.sizeOf69
  t25 := Tryz.underlying109
  a25 := Tryz.isAgg109
  z25 := Tryz.sizeOf109
  v25 := Tryz.zeroValue109
  t39 := Tryz.underlying116
  a39 := Tryz.isAgg116
  z39 := Tryz.sizeOf116
  v39 := Tryz.zeroValue116
  t45 := Tryz.underlying159
  a45 := Tryz.isAgg159
  z45 := Tryz.sizeOf159
  v45 := Tryz.zeroValue159
  t46 := Tryz.underlying160
  a46 := Tryz.isAgg160
  z46 := Tryz.sizeOf160
  v46 := Tryz.zeroValue160
  t50 := Tryz.underlying131
  a50 := Tryz.isAgg131
  z50 := Tryz.sizeOf131
  v50 := Tryz.zeroValue131
  t53 := Tryz.underlying141
  a53 := Tryz.isAgg141
  z53 := Tryz.sizeOf141
  v53 := Tryz.zeroValue141
  t55 := Tryz.underlying143
  a55 := Tryz.isAgg143
  z55 := Tryz.sizeOf143
  v55 := Tryz.zeroValue143
  t66 := Tryz.underlying181
  a66 := Tryz.isAgg181
  z66 := Tryz.sizeOf181
  v66 := Tryz.zeroValue181
  t70 := Tryz.underlying154
  a70 := Tryz.isAgg154
  z70 := Tryz.sizeOf154
  v70 := Tryz.zeroValue154
  t76 := Tryz.underlying199
  a76 := Tryz.isAgg199
  z76 := Tryz.sizeOf199
  v76 := Tryz.zeroValue199
  t77 := Tryz.underlying138
  a77 := Tryz.isAgg138
  z77 := Tryz.sizeOf138
  v77 := Tryz.zeroValue138 }
open Go.RowKit Go.Lib in
theorem Tryz.slices_IndexFunc_empty {α : Type} [Inhabited α] (a : Option Addr) (c : Nat) (fv : Value) (w : World) :
    Calls Tryz.prog 116 #[.slice a 0 c, fv] w fun e w' => e = .returned (.int .i64 (-1)) ∧ w' = w := AnyE.slices_IndexFunc_empty Tryz.laysSlH6_f116 a c fv w
open Go.RowKit Go.Lib in
theorem Tryz.slices_ContainsFunc_empty {α : Type} [Inhabited α] (a : Option Addr) (c : Nat) (fv : Value) (w : World) :
    Calls Tryz.prog 131 #[.slice a 0 c, fv] w fun e w' => e = .returned (.bool false) ∧ w' = w := AnyE.slices_ContainsFunc_empty Tryz.laysSlH8_f131 a c fv w
end Go.Proofs
namespace Go.Proofs.YtbmcigakiibncaaGreatDoor.H
open Go.RowKit Go.Proofs.YtbmcigakiibncaaGreatDoorW.PrintWords Go.Proofs.YtbmcigakiibncaaGreatDoorW.PrintLast Go.Proofs.YtbmcigakiibncaaGreatDoorW.PrintMore
set_option linter.unusedVariables false
set_option linter.unusedSimpArgs false
def ofN (l : List Nat) : List Int := l.map fun (n : Nat) => (n : Int)
theorem ofN_len (l : List Nat) : (ofN l).length = l.length := List.length_map ..
def encI (z : Int) : Value := .int .i64 z
def AtRow (A : Option Addr) (n : Nat) : Prop := n = 0 ∨ ∃ b, A = some ⟨b, 0, none⟩
theorem row_at {e : Nat} {W : World} {base : Nat} {ok : Nat → Prop} {A : Option Addr} {n c : Nat} {xs : List Int} (h : (Kd.int .i64).R e W base ok (.slice A n c) xs) : AtRow A n := by
  obtain ⟨_, inner, ho, _⟩ := h
  rcases ho.2 with ⟨e1, h0⟩ | ⟨g, cap, cur, e1, _⟩
  · injection e1 with _ e2 _; exact .inl e2
  · injection e1 with e1 _ _; exact .inr ⟨g, e1⟩
theorem cells_I {W : World} {b n : Nat} {zs : List Int} (hr : Kd.C (Kd.int .i64) W (some ⟨b, 0, none⟩) n zs) (hn : n = zs.length) : ∀ j, j < zs.length → W.cell? ⟨b, 0 + j, none⟩ = some (encI zs[j]!) := by
  intro j hj
  obtain ⟨ad, e, hk⟩ := Kd.at_int hr (j : Int) (by omega) (by omega)
  injection e with e
  subst e
  rw [Int.toNat_natCast, show (Addr.add ⟨b, 0, none⟩ j) = ⟨b, 0 + j, none⟩ by unfold Addr.add; split <;> simp_all] at hk
  rw [hk]
  simp [encI, rd, List.getD_eq_getElem?_getD, List.getElem?_eq_getElem hj, getElem!_pos, hj]
theorem anyI_calls (A : Option Addr) (c : Nat) (zs : List Int) (g : Nat) (lb : Array Value) (p : Int → Bool) (eg : ∀ args w, (callFunc g args).run Tryz.prog w = .ok (.enter g args) w) (W : World) (hp : PredAt Tryz.prog g lb encI p W)
    (hr : Kd.C (Kd.int .i64) W A zs.length zs) (ha : AtRow A zs.length) :
    Calls Tryz.prog 131 #[.slice A zs.length c, .func (.func g) #[] lb] W fun e w' => e = .returned (.bool (zs.any p)) ∧ ∃ q, w' = W.drewN q := by
  rcases ha with h0 | ⟨b, rfl⟩
  · rw [h0]
    refine (Tryz.slices_ContainsFunc_empty (α := Int) A c _ W).mono ?_
    rintro e w' ⟨rfl, rfl⟩
    obtain rfl : zs = [] := List.length_eq_zero_iff.1 h0
    exact ⟨rfl, 0, rfl⟩
  · have h := Tryz.slices_ContainsFunc encI p g lb eg b 0 zs.length c zs W hp (Nat.le_refl _) hr.2.1 (cells_I hr rfl)
    rw [List.take_length] at h
    exact h
theorem idxI_calls (A : Option Addr) (c : Nat) (zs : List Int) (g : Nat) (lb : Array Value) (p : Int → Bool) (eg : ∀ args w, (callFunc g args).run Tryz.prog w = .ok (.enter g args) w) (W : World) (hp : PredAt Tryz.prog g lb encI p W)
    (hr : Kd.C (Kd.int .i64) W A zs.length zs) (ha : AtRow A zs.length) :
    Calls Tryz.prog 116 #[.slice A zs.length c, .func (.func g) #[] lb] W fun e w' => e = .returned (.int .i64 (Lib.idxBy (fun _ y => p y) zs default)) ∧ ∃ q, w' = W.drewN q := by
  rcases ha with h0 | ⟨b, rfl⟩
  · rw [h0]
    refine (Tryz.slices_IndexFunc_empty (α := Int) A c _ W).mono ?_
    rintro e w' ⟨rfl, rfl⟩
    obtain rfl : zs = [] := List.length_eq_zero_iff.1 h0
    exact ⟨rfl, 0, rfl⟩
  · have h := Tryz.slices_IndexFunc encI p g lb eg b 0 zs.length c zs W hp (Nat.le_refl _) hr.2.1 (cells_I hr rfl)
    rw [List.take_length] at h
    exact h
def neededB (alts : List Nat) (x : Nat) : Bool := (bitsN x).all fun i => alts.any fun l => l &&& x == 2 ^ i
theorem eg132 : ∀ args w, (callFunc 132 args).run Tryz.prog w = .ok (.enter 132 args) w := enters_of Tryz.func132 (by kernel_rfl) rfl
theorem eg117 : ∀ args w, (callFunc 117 args).run Tryz.prog w = .ok (.enter 117 args) w := enters_of Tryz.func117 (by kernel_rfl) rfl
set_option maxHeartbeats 2000000 in
theorem pred132 (bx bo : Nat) (x o : Int) (w : World) (hx : w.cell? ⟨bx, 0, none⟩ = some (.int .i64 x)) (ho : w.cell? ⟨bo, 0, none⟩ = some (.int .i64 o)) :
    PredAt Tryz.prog 132 #[.pointer (some ⟨bx, 0, none⟩), .pointer (some ⟨bo, 0, none⟩)] encI (fun z => bits .and .i64 z x == o) w := by
  intro W z hb
  have h1 := pw_cell_below hb hx
  have h2 := pw_cell_below hb ho
  clear hx ho hb
  unfold FnGives
  unfold encI
  simp only [List.append_toArray, List.cons_append, List.nil_append]
  generalize hy : bits .and .i64 z x = y
  go_enter Tryz.func132, Tryz.ntmps132
  go_wp2
  go_ret
  exact ⟨rfl, 0, rfl⟩
set_option maxHeartbeats 2000000 in
theorem pred117 (bx : Nat) (x : Int) (w : World) (hx : w.cell? ⟨bx, 0, none⟩ = some (.int .i64 x)) :
    PredAt Tryz.prog 117 #[.pointer (some ⟨bx, 0, none⟩)] encI (fun z => bits .and .i64 z x == 0) w := by
  intro W z hb
  have h1 := pw_cell_below hb hx
  clear hx hb
  unfold FnGives
  unfold encI
  simp only [List.append_toArray, List.cons_append, List.nil_append]
  go_enter Tryz.func117, Tryz.ntmps117
  go_wp2
  go_ret
  exact ⟨rfl, 0, rfl⟩
theorem any_and {alts : List Nat} {x : Nat} (hal : ∀ l ∈ alts, l < 16777216) (hx : x < 16777216) (q : Nat) : (ofN alts).any (fun z => bits .and .i64 z (x : Int) == (q : Int)) = alts.any fun l => l &&& x == q := by
  unfold ofN
  rw [List.any_map]
  refine any_congr fun l hl => ?_
  show (bits .and .i64 (l : Int) (x : Int) == (q : Int)) = _
  rw [i64_and (by have := hal l hl; omega) (by omega)]
  by_cases h : l &&& x = q
  · rw [h]; simp
  · rw [Bool.eq_iff_iff, beq_iff_eq, beq_iff_eq]
    omega
set_option maxHeartbeats 4000000 in
theorem needed_calls (hb : Nat) (A : Option Addr) (c : Nat) (alts : List Nat) (x : Nat) (w : World) (hal : ∀ l ∈ alts, l < 16777216) (hx : x < 16777216) (hk : w.cell? ⟨hb, 0, none⟩ = some (.slice A alts.length c)) (hr : Kd.C (Kd.int .i64) w A alts.length (ofN alts)) (ha : AtRow A alts.length) :
    Calls Tryz.prog 115 #[.pointer (some ⟨hb, 0, none⟩), .int .i64 (x : Int)] w fun E w' => E = .returned (.bool (neededB alts x)) ∧ Below w.heap.size w w' := by
  have HAL := Aside0.mk hal
  have HX := Aside0.mk hx
  have HK := Aside0.mk hk
  have HR := Aside0.mk hr
  have HA := Aside0.mk ha
  have HB0 := Aside0.mk (below_alloc (Below.refl w.heap.size w) (.cells #[.int .i64 (x : Int)] 3))
  have HN0 := Aside0.mk (blk_new w (.cells #[.int .i64 (x : Int)] 3))
  clear hal hk hr ha
  go_enter Tryz.func115, Tryz.ntmps115
  go_upto_region 1 with (fail)
  generalize w.alloc (.cells #[.int .i64 (x : Int)] 3) = W0 at *
  have k0 : W0.cell? ⟨w.heap.size, 0, none⟩ = some (.int .i64 (x : Int)) := (blk_cell HN0.out 0).trans rfl
  clear hx
  go_wp2
  clear k0
  go_loopg [5] x (fun gg v5 wi => ∃ y : Nat, y ≤ gg ∧ v5 = .int .i64 (y : Int) ∧ y < 16777216 ∧ Aside0 (neededB alts x = (bitsN y).all fun i => alts.any fun l => l &&& x == 2 ^ i) ∧ Aside0 (Below w.heap.size w wi) ∧ Aside0 (wi.heap[w.heap.size]? = some (.cells #[.int .i64 (x : Int)] 3 (0, 0))))
  case atStart => exact ⟨x, Nat.le_refl _, rfl, HX.out, ⟨rfl⟩, HB0, HN0⟩
  case round =>
    clear HB0 HN0
    obtain ⟨y, hgg, rfl, hy, HE, HB, HBX⟩ := hrel
    by_cases h0 : y = 0
    · subst h0
      have HV := Aside0.mk (show neededB alts x = true by rw [HE.out, bitsN_zero]; rfl)
      clear HE
      go_wp2
      go_ret
      exact ⟨by rw [HV.out]; rfl, HB.out⟩
    · have h0z : ¬ (y : Int) = 0 := by omega
      have HST := Aside0.mk (show neededB alts x = ((alts.any fun l => l &&& x == 2 ^ lo y) && (bitsN (y &&& (y - 1))).all fun i => alts.any fun l => l &&& x == 2 ^ i) by rw [HE.out, bitsN_step h0 hy]; rfl)
      have hlow := i64_low h0 hy
      have hdrop := i64_drop h0 hy
      have HDL := Aside0.mk (drop_lt h0 hy)
      have HP := Aside0.mk (lo_pow h0 hy)
      have HAN := Aside0.mk (any_and (x := x) HAL.out HX.out (2 ^ lo y))
      have hneg : wrap64 (-(y : Int)) = -(y : Int) := wr_id (by omega) (by omega)
      generalize 2 ^ lo y = q at *
      have HC := Aside0.mk (fun (w1 : World) (h1 : Below wr.heap.size wr w1) (h2 : w1.cell? ⟨wr.heap.size, 0, none⟩ = some (.int .i64 (q : Int))) =>
        anyI_calls A c (ofN alts) 132 #[.pointer (some ⟨w.heap.size, 0, none⟩), .pointer (some ⟨wr.heap.size, 0, none⟩)] _ eg132 w1
          (pred132 w.heap.size wr.heap.size (x : Int) (q : Int) w1 (pw_cell_below h1 ((blk_cell (HBX.out) 0).trans rfl)) h2) (by rw [ofN_len]; exact Kd.C_below HR.out (below_then HB.out (HB.out).size h1)) (by rw [ofN_len]; exact HA.out))
      rw [ofN_len] at HC
      have k1 := pw_cell_below HB.out HK.out
      have HB1 := Aside0.mk (below_alloc (Below.refl wr.heap.size wr) (.cells #[.int .i64 (q : Int)] 3))
      have HN1 := Aside0.mk (blk_new wr (.cells #[.int .i64 (q : Int)] 3))
      have hmf := run_mkfun
      go_upto_region 5 with (fail)
      have HC2 := Aside0.mk (HC.out _ HB1.out ((blk_cell HN1.out 0).trans rfl))
      have k2 := pw_cell_below HB1.out k1
      have HB2 := Aside0.mk (below_then HB.out (HB.out).size HB1.out)
      have HBX2 := Aside0.mk (blk_below HBX.out HB1.out)
      rw [HAN.out] at HC2
      clear k1 HC HB HBX HB1 HN1 HAN
      generalize wr.alloc (.cells #[.int .i64 (q : Int)] 3) = W1 at *
      cases hq : (alts.any fun l => l &&& x == q) with
      | false =>
        have HV := Aside0.mk (show neededB alts x = false by rw [HST.out, hq]; rfl)
        rw [hq] at HC2
        clear hq
        go_wp2_with fail
        refine (HC2.out).mono ?_
        rintro E W2 ⟨rfl, nq, rfl⟩
        go_wp2
        go_ret
        exact ⟨by rw [HV.out]; rfl, pw_below_drewN HB2.out nq⟩
      | true =>
        have HV := Aside0.mk (show neededB alts x = (bitsN (y &&& (y - 1))).all fun i => alts.any fun l => l &&& x == 2 ^ i by rw [HST.out, hq]; rfl)
        rw [hq] at HC2
        clear hq
        go_wp2_with fail
        refine (HC2.out).mono ?_
        rintro E W2 ⟨rfl, nq, rfl⟩
        have HB3 := Aside0.mk (pw_below_drewN HB2.out nq)
        have HBX3 := Aside0.mk (blk_drewN HBX2.out nq)
        have HDR := Aside0.mk hdrop
        clear HB2 HBX2
        generalize W1.drewN nq = W3 at *
        go_wp2
        go_roundg (y &&& (y - 1))
        case measure => have := HDL.out; omega
        case rel => exact ⟨_, Nat.le_refl _, rfl, by have := HDL.out; omega, HV, HB3, HBX3⟩
end Go.Proofs.YtbmcigakiibncaaGreatDoor.H
namespace Go.Proofs.YtbmcigakiibncaaGreatDoor.H
open Go.RowKit Go.Proofs.YtbmcigakiibncaaGreatDoorW.PrintWords Go.Proofs.YtbmcigakiibncaaGreatDoorW.PrintLast Go.Proofs.YtbmcigakiibncaaGreatDoorW.PrintMore
set_option linter.unusedVariables false
def digs : List UInt8 := [48, 49, 50, 51, 52, 53, 54, 55, 56, 57]
def numBad (l : List UInt8) : Bool := decide (l = []) || decide (10 < l.length) || (decide (l.head? = some 48) && decide (1 < l.length)) || !decide (Lib.trimS l digs = [])
def numV (l : List UInt8) : Int := (Lib.atoi l).getD 0
def numOk (l : List UInt8) : Bool := !numBad l && decide (numV l ≤ 1000000000)
theorem dropWhile_nil {α : Type} {p : α → Bool} {l : List α} (h : l.dropWhile p = []) : ∀ x ∈ l, p x = true := by
  induction l with
  | nil => intro x hx; cases hx
  | cons a r ih =>
    rw [List.dropWhile_cons] at h
    by_cases ha : p a = true
    · rw [if_pos ha] at h
      intro x hx
      rcases List.mem_cons.1 hx with rfl | hx
      · exact ha
      · exact ih h x hx
    · rw [if_neg ha] at h; cases h
theorem mem_tw {α : Type} {p : α → Bool} {l : List α} {x : α} (h : x ∈ l.takeWhile p) : p x = true := by
  induction l with
  | nil => cases h
  | cons a r ih =>
    rw [List.takeWhile_cons] at h
    by_cases ha : p a = true
    · rw [if_pos ha] at h
      rcases List.mem_cons.1 h with rfl | h
      · exact ha
      · exact ih h
    · rw [if_neg ha] at h; cases h
theorem trimS_nil {l cs : List UInt8} (h : Lib.trimS l cs = []) : ∀ x ∈ l, cs.contains x = true := by
  unfold Lib.trimS Lib.trimLeftS Lib.trimRightS at h
  have h1 := dropWhile_nil h
  intro x hx
  have hx2 : x ∈ l.reverse := List.mem_reverse.2 hx
  rw [← List.takeWhile_append_dropWhile (p := (cs.contains ·)) (l := l.reverse)] at hx2
  rcases List.mem_append.1 hx2 with hx3 | hx3
  · exact mem_tw hx3
  · exact h1 x (List.mem_reverse.2 hx3)
theorem digit_val {x : UInt8} (h : digs.contains x = true) : ∃ d, d ≤ 9 ∧ Lib.digitVal x = some d ∧ x ≠ 45 ∧ x ≠ 43 := by
  unfold digs at h
  simp only [List.contains_cons, List.contains_nil, Bool.or_false, Bool.or_eq_true, beq_iff_eq] at h
  rcases h with rfl | rfl | rfl | rfl | rfl | rfl | rfl | rfl | rfl | rfl <;> exact ⟨_, by decide, rfl, by decide, by decide⟩
theorem dec_some {l : List UInt8} (h : ∀ x ∈ l, digs.contains x = true) : ∀ acc, ∃ n, Lib.decFrom acc l = some n := by
  induction l with
  | nil => intro acc; exact ⟨acc, rfl⟩
  | cons a r ih =>
    intro acc
    obtain ⟨d, _, hd, _⟩ := digit_val (h a (List.mem_cons_self ..))
    obtain ⟨n, hn⟩ := ih (fun x hx => h x (List.mem_cons_of_mem _ hx)) (acc * 10 + d)
    exact ⟨n, by rw [Lib.decFrom, hd]; exact hn⟩
theorem atoi_some {l : List UInt8} (h : numBad l = false) : ∃ n : Nat, Lib.atoi l = some (n : Int) := by
  unfold numBad at h
  simp only [Bool.or_eq_false_iff, decide_eq_false_iff_not, Bool.not_eq_false', decide_eq_true_eq] at h
  obtain ⟨⟨⟨h1, _⟩, _⟩, h4⟩ := h
  have hall := trimS_nil h4
  cases l with
  | nil => exact absurd rfl h1
  | cons a r =>
    obtain ⟨d, _, hd, h45, h43⟩ := digit_val (hall a (List.mem_cons_self ..))
    obtain ⟨n, hn⟩ := dec_some hall 0
    refine ⟨n, ?_⟩
    rw [Lib.atoi, if_neg (by simpa using h45), if_neg (by simpa using h43)]
    unfold Lib.decNat
    rw [if_neg (by simp), hn]
    rfl
theorem numV_eq {l : List UInt8} {n : Nat} (h : Lib.atoi l = some (n : Int)) : numV l = n := by unfold numV; rw [h]; rfl
def num0V (l : List UInt8) : Int := if numBad l then 0 else numV l
theorem num_bad {l : List UInt8} (h : numBad l = true) : num0V l = 0 ∧ numOk l = false := by unfold num0V numOk; rw [h]; exact ⟨rfl, rfl⟩
theorem num_good {l : List UInt8} (h : numBad l = false) : num0V l = numV l ∧ numOk l = decide (num0V l ≤ 1000000000) := by unfold num0V numOk; rw [h]; exact ⟨rfl, rfl⟩
theorem head_at {s : ByteArray} (h : 0 < s.size) : s.data.toList.head? = some s[0] := by
  rcases s with ⟨⟨l⟩⟩
  cases l with
  | nil => exact absurd h (by decide)
  | cons a r => rfl
set_option maxHeartbeats 4000000 in
theorem number0_calls (s : ByteArray) (w : World) (hs : s.size ≤ 70000) :
    Calls Tryz.prog 104 #[.string s] w fun E w' => E = .returned (.tuple #[.int .i64 (num0V s.data.toList), .bool (numOk s.data.toList)]) ∧ Below w.heap.size w w' := by
  have HT := Aside0.mk (Tryz.trim_digits s w (by omega))
  have HA := Aside0.mk fun (h : numBad s.data.toList = false) W => by
    obtain ⟨n, hn⟩ := atoi_some h
    have h10 : s.size ≤ 18 := by
      unfold numBad at h
      simp only [Bool.or_eq_false_iff, decide_eq_false_iff_not] at h
      have := h.1.1.2
      have e : s.data.toList.length = s.size := (Lib.size_eq s).symm
      omega
    exact (show Calls Tryz.prog 126 #[.string s] W fun e w' => e = .returned (.tuple #[.int .i64 (numV s.data.toList), .nilIface]) ∧ Below W.heap.size W w' from (Tryz.strconv_Atoi s n h10 hn W).mono fun e w' ⟨he, t, ht⟩ => ⟨by rw [numV_eq hn]; exact he, by rw [ht]; exact Lib.bytesWorld_below _ _ _⟩)
  have HE := Aside0.mk (Lib.toList_data s)
  have HZ := Aside0.mk (Lib.size_eq s)
  go_enter Tryz.func104, Tryz.ntmps104
  cases q1 : s.toList.isEmpty with
  | true =>
    have hb : numBad s.data.toList = true := by
      have : s.data.toList = [] := by rw [← HE.out]; simpa using q1
      unfold numBad; rw [decide_eq_true this]; rfl
    have HV := Aside0.mk (num_bad hb)
    clear hb
    go_wp2
    go_ret2
    exact ⟨by rw [(HV.out).1, (HV.out).2]; rfl, Below.refl _ _⟩
  | false =>
  cases q2 : decide ((s.size : Int) > 10) with
  | true =>
    have hb : numBad s.data.toList = true := by
      have := of_decide_eq_true q2
      unfold numBad; rw [decide_eq_true (show 10 < s.data.toList.length by rw [← HZ.out]; omega)]; simp
    have HV := Aside0.mk (num_bad hb)
    clear hb
    go_wp2
    go_ret2
    exact ⟨by rw [(HV.out).1, (HV.out).2]; rfl, Below.refl _ _⟩
  | false =>
  have h0 : 0 < s.size := by
    rw [HZ.out]
    cases e : s.data.toList with
    | nil => rw [← HE.out] at e; rw [e] at q1; cases q1
    | cons a r => simp
  have HH := Aside0.mk (head_at h0)
  go_wp2_with fail
  · have HN48 := Aside0.mk (show (decide (s.data.toList.head? = some 48) && decide (1 < s.data.toList.length)) = false from by rw [HZ.out] at *; rw [decide_eq_false (show ¬ 1 < s.data.toList.length by omega)]; simp)
    refine (HT.out).mono ?_
    rintro E w2 ⟨rfl, hb⟩
    have HB := Aside0.mk hb
    have HTR := Aside0.mk (show Lib.trimS s.data.toList digs = [] ↔ (⟨(Lib.trimS s.data.toList [48, 49, 50, 51, 52, 53, 54, 55, 56, 57]).toArray⟩ : ByteArray).toList.isEmpty = true by rw [Lib.toList_data]; simp [digs])
    clear hb
    generalize (⟨(Lib.trimS s.data.toList [48, 49, 50, 51, 52, 53, 54, 55, 56, 57]).toArray⟩ : ByteArray) = tr at *
    cases q5 : tr.toList.isEmpty with
    | false =>
      have hb : numBad s.data.toList = true := by
        have h1 : ¬ Lib.trimS s.data.toList digs = [] := fun h => by rw [(HTR.out).1 h] at q5; cases q5
        unfold numBad; rw [decide_eq_false h1]; simp
      have HV := Aside0.mk (num_bad hb)
      clear hb
      go_wp2
      go_ret2
      exact ⟨by rw [(HV.out).1, (HV.out).2]; rfl, HB.out⟩
    | true =>
      have hb : numBad s.data.toList = false := by
        unfold numBad
        rw [decide_eq_true ((HTR.out).2 q5), HN48.out, decide_eq_false (show ¬ s.data.toList = [] from fun h => by rw [← HE.out] at h; rw [h] at q1; cases q1), decide_eq_false (show ¬ 10 < s.data.toList.length from by have := of_decide_eq_false q2; rw [← HZ.out]; omega)]
        rfl
      have HV := Aside0.mk (num_good hb)
      have HA2 := Aside0.mk (HA.out hb)
      clear hb
      go_wp2_with fail
      refine (HA2.out _).mono ?_
      rintro E w3 ⟨rfl, hb⟩
      have HB3 := Aside0.mk (below_then HB.out (HB.out).size hb)
      clear hb
      rw [← (HV.out).1]
      cases q6 : decide (num0V s.data.toList ≤ 1000000000) with
      | false =>
        go_wp2
        go_ret2
        exact ⟨by rw [(HV.out).2, q6]; rfl, HB3.out⟩
      | true =>
        go_wp2
        go_ret2
        exact ⟨by rw [(HV.out).2, q6]; rfl, HB3.out⟩
  · have hb : numBad s.data.toList = true := by
      have h48 : s[0].toNat = 48 := by omega
      have e : s[0] = 48 := UInt8.toNat_inj.1 h48
      unfold numBad; rw [HH.out, e, decide_eq_true (show 1 < s.data.toList.length by rw [← HZ.out]; omega)]; simp
    have HV := Aside0.mk (num_bad hb)
    clear hb
    go_wp2
    go_ret2
    exact ⟨by rw [(HV.out).1, (HV.out).2]; rfl, Below.refl _ _⟩
  · have HN48 := Aside0.mk (show (decide (s.data.toList.head? = some 48) && decide (1 < s.data.toList.length)) = false from by rw [HH.out]; have h1 : ¬ s[0] = 48 := fun e => absurd (show ((s[0].toNat : Nat) : Int) = 48 by rw [e]; rfl) (by assumption); simp [h1])
    refine (HT.out).mono ?_
    rintro E w2 ⟨rfl, hb⟩
    have HB := Aside0.mk hb
    have HTR := Aside0.mk (show Lib.trimS s.data.toList digs = [] ↔ (⟨(Lib.trimS s.data.toList [48, 49, 50, 51, 52, 53, 54, 55, 56, 57]).toArray⟩ : ByteArray).toList.isEmpty = true by rw [Lib.toList_data]; simp [digs])
    clear hb
    generalize (⟨(Lib.trimS s.data.toList [48, 49, 50, 51, 52, 53, 54, 55, 56, 57]).toArray⟩ : ByteArray) = tr at *
    cases q5 : tr.toList.isEmpty with
    | false =>
      have hb : numBad s.data.toList = true := by
        have h1 : ¬ Lib.trimS s.data.toList digs = [] := fun h => by rw [(HTR.out).1 h] at q5; cases q5
        unfold numBad; rw [decide_eq_false h1]; simp
      have HV := Aside0.mk (num_bad hb)
      clear hb
      go_wp2
      go_ret2
      exact ⟨by rw [(HV.out).1, (HV.out).2]; rfl, HB.out⟩
    | true =>
      have hb : numBad s.data.toList = false := by
        unfold numBad
        rw [decide_eq_true ((HTR.out).2 q5), HN48.out, decide_eq_false (show ¬ s.data.toList = [] from fun h => by rw [← HE.out] at h; rw [h] at q1; cases q1), decide_eq_false (show ¬ 10 < s.data.toList.length from by have := of_decide_eq_false q2; rw [← HZ.out]; omega)]
        rfl
      have HV := Aside0.mk (num_good hb)
      have HA2 := Aside0.mk (HA.out hb)
      clear hb
      go_wp2_with fail
      refine (HA2.out _).mono ?_
      rintro E w3 ⟨rfl, hb⟩
      have HB3 := Aside0.mk (below_then HB.out (HB.out).size hb)
      clear hb
      rw [← (HV.out).1]
      cases q6 : decide (num0V s.data.toList ≤ 1000000000) with
      | false =>
        go_wp2
        go_ret2
        exact ⟨by rw [(HV.out).2, q6]; rfl, HB3.out⟩
      | true =>
        go_wp2
        go_ret2
        exact ⟨by rw [(HV.out).2, q6]; rfl, HB3.out⟩
end Go.Proofs.YtbmcigakiibncaaGreatDoor.H
namespace Go.Proofs.YtbmcigakiibncaaGreatDoor.H
open Go.RowKit Go.Proofs.YtbmcigakiibncaaGreatDoorW.PrintWords Go.Proofs.YtbmcigakiibncaaGreatDoorW.PrintLast Go.Proofs.YtbmcigakiibncaaGreatDoorW.PrintMore
set_option linter.unusedVariables false
def pbad : Ending := .panicked [{ v := .iface 89 (.agg #[]), recovered := false }]
def numE (l : List UInt8) : Ending := if numOk l then .returned (.int .i64 (num0V l)) else pbad
set_option maxHeartbeats 4000000 in
theorem number_calls (s : ByteArray) (w : World) (hs : s.size ≤ 70000) :
    Calls Tryz.prog 61 #[.string s] w fun E w' => E = numE s.data.toList ∧ Below w.heap.size w w' := by
  have HN := Aside0.mk (number0_calls s w hs)
  go_enter Tryz.func61, Tryz.ntmps61
  cases q : numOk s.data.toList with
  | false =>
    have HE := Aside0.mk (show numE s.data.toList = pbad by unfold numE; rw [q]; rfl)
    rw [q] at HN
    clear q
    go_wp2_with fail
    refine (HN.out).mono ?_
    rintro E w2 ⟨rfl, hb⟩
    have HB := Aside0.mk hb
    clear hb
    go_wp2
    exact ⟨rfl, by rw [HE.out]; rfl, HB.out⟩
  | true =>
    have HE := Aside0.mk (show numE s.data.toList = .returned (.int .i64 (num0V s.data.toList)) by unfold numE; rw [q]; rfl)
    rw [q] at HN
    clear q
    go_wp2_with fail
    refine (HN.out).mono ?_
    rintro E w2 ⟨rfl, hb⟩
    have HB := Aside0.mk hb
    clear hb
    go_wp2
    go_ret
    exact ⟨by rw [HE.out]; rfl, HB.out⟩
def MX (w : World) : Prop := ∃ m : Int, w.cell? ⟨2, 0, none⟩ = some (.int .i64 m)
theorem MX.below {w w1 : World} (h : MX w) (hb : Below w.heap.size w w1) : MX w1 := by
  obtain ⟨m, hm⟩ := h
  exact ⟨m, pw_cell_below hb hm⟩
theorem chunks_len (s : ByteArray) (c : UInt8) : (Lib.splitB ⟨#[c]⟩ 0 (Lib.countB s ⟨#[c]⟩) s).length = Lib.countB s ⟨#[c]⟩ + 1 := Lib.splitB_all _ (show 1 ≤ (ByteArray.mk #[c]).size from Nat.le_refl 1) _ _ _ rfl
def chunks (s : ByteArray) (c : UInt8) : List ByteArray := Lib.splitB ⟨#[c]⟩ 0 (Lib.countB s ⟨#[c]⟩) s
theorem chunks_ne (s : ByteArray) (c : UInt8) : ∃ p r, chunks s c = p :: r ∧ r.length = Lib.countB s ⟨#[c]⟩ := by
  have h : (chunks s c).length = Lib.countB s ⟨#[c]⟩ + 1 := chunks_len s c
  cases e : chunks s c with
  | nil => rw [e] at h; simp at h
  | cons p r => rw [e] at h; exact ⟨p, r, rfl, by simpa using h⟩
theorem chunks_short (s : ByteArray) (c : UInt8) : (chunks s c).length ≤ s.size + 1 := by
  have h : (chunks s c).length = Lib.countB s ⟨#[c]⟩ + 1 := chunks_len s c
  have := Lib.countB_le ⟨#[c]⟩ (Nat.le_refl 1) s.size s (Nat.le_refl _)
  omega
theorem string_inj {a b : ByteArray} (h : (a.toList == b.toList) = true) : a = b := by
  have h1 := beq_iff_eq.1 h
  rw [Lib.toList_data, Lib.toList_data] at h1
  rcases a with ⟨⟨a⟩⟩
  rcases b with ⟨⟨b⟩⟩
  exact congrArg (fun l => ByteArray.mk (Array.mk l)) h1
theorem string_ne {a b : ByteArray} (h : (a.toList == b.toList) = false) : a ≠ b := fun e => by rw [e] at h; simp at h
theorem split_calls (s : ByteArray) (c : UInt8) (w : World) (hs : s.size ≤ 70000) (hm : MX w) :
    Calls Tryz.prog 59 #[.string s, .string ⟨#[c]⟩] w fun E w' => E = .returned (.slice (some ⟨w.heap.size, 0, none⟩) (chunks s c).length (chunks s c).length) ∧ w' = w.alloc (.cells ((chunks s c).map Value.string).toArray 9) := by
  obtain ⟨m, hm⟩ := hm
  have h := Tryz.strings_Split s ⟨#[c]⟩ m w (by omega) hm (Nat.le_refl 1)
  rw [← chunks_len s c] at h
  exact h
end Go.Proofs.YtbmcigakiibncaaGreatDoor.H
namespace Go.Proofs.YtbmcigakiibncaaGreatDoor.H
open Go.RowKit Go.Proofs.YtbmcigakiibncaaGreatDoorW.PrintWords Go.Proofs.YtbmcigakiibncaaGreatDoorW.PrintLast Go.Proofs.YtbmcigakiibncaaGreatDoorW.PrintMore
set_option linter.unusedVariables false
def altX (l : List UInt8) : List UInt8 := Lib.trimPrefix l [32]
def altN (l : List UInt8) : Nat := if Lib.indexByte (altX l) 32 < 0 then (altX l).length else (Lib.indexByte (altX l) 32).toNat
def altC (l : List UInt8) : List UInt8 × List UInt8 × Bool := Lib.cut ((altX l).take (altN l)) [46]
def altGo (l : List UInt8) : Bool := Lib.hasPrefix l [32] && (altC l).2.2 && numOk (altC l).1 && numOk (altC l).2.1
def altR (l : List UInt8) : List UInt8 := (altX l).drop (altN l)
def altE (l : List UInt8) : Q.S83 := ⟨num0V (altC l).1, num0V (altC l).2.1⟩
def altV : Nat → List UInt8 → Option (List Q.S83)
  | 0, _ => none
  | k + 1, l => if l = [] then some [] else if altGo l then (altV k (altR l)).map (altE l :: ·) else none
def AltE (l : List UInt8) (w : World) (E : Ending) (w' : World) : Prop :=
  Below w.heap.size w w' ∧ (altV (l.length + 1) l = none ∧ E = pbad ∨ ∃ (ys : List Q.S83) (v : Value), altV (l.length + 1) l = some ys ∧ E = .returned v ∧ Kd.R Q.k83 83 w' w.heap.size (fun k => w.heap.size ≤ k) v ys)
theorem index_len (l : List UInt8) (c : UInt8) : Lib.indexByte l c ≤ l.length ∧ -1 ≤ Lib.indexByte l c := by
  induction l with
  | nil => exact ⟨by simp [Lib.indexByte], by simp [Lib.indexByte]⟩
  | cons a r ih =>
    unfold Lib.indexByte
    split
    · simp; omega
    · split
      · simp; omega
      · rename_i h
        have : ¬ Lib.indexByte r c = -1 := by simpa using h
        simp; omega
theorem altN_le (l : List UInt8) : altN l ≤ (altX l).length := by
  unfold altN
  have := index_len (altX l) 32
  split <;> omega
theorem altX_len {l : List UInt8} (h : Lib.hasPrefix l [32] = true) : (altX l).length + 1 ≤ l.length := by
  unfold altX Lib.trimPrefix
  rw [if_pos h]
  unfold Lib.hasPrefix at h
  cases l with
  | nil => simp at h
  | cons a r => simp
theorem altV_fuel : ∀ (k m : Nat) (l : List UInt8), l.length < k → l.length < m → altV k l = altV m l := by
  intro k
  induction k with
  | zero => intro m l h; omega
  | succ k ih =>
    intro m l h1 h2
    cases m with
    | zero => omega
    | succ m =>
      unfold altV
      by_cases he : l = []
      · rw [if_pos he, if_pos he]
      · rw [if_neg he, if_neg he]
        cases hg : altGo l with
        | false => rfl
        | true =>
          have hp : Lib.hasPrefix l [32] = true := by unfold altGo at hg; simp only [Bool.and_eq_true] at hg; exact hg.1.1.1
          have h3 := altX_len hp
          have h4 : (altR l).length ≤ (altX l).length := by unfold altR; rw [List.length_drop]; omega
          rw [ih m (altR l) (by omega) (by omega)]
theorem altV_next {l : List UInt8} (h : l ≠ []) (hg : altGo l = true) : altV (l.length + 1) l = (altV ((altR l).length + 1) (altR l)).map (altE l :: ·) ∧ (altR l).length < l.length := by
  have hp : Lib.hasPrefix l [32] = true := by unfold altGo at hg; simp only [Bool.and_eq_true] at hg; exact hg.1.1.1
  have h3 := altX_len hp
  have h4 : (altR l).length ≤ (altX l).length := by unfold altR; rw [List.length_drop]; omega
  refine ⟨?_, by omega⟩
  rw [altV, if_neg h, if_pos hg, altV_fuel _ ((altR l).length + 1) _ (by omega) (by omega)]
theorem altV_bad {l : List UInt8} (h : l ≠ []) (hg : altGo l = false) : altV (l.length + 1) l = none := by
  rw [altV, if_neg h, hg]; rfl
theorem cutP_calls (l : List UInt8) (X : ByteArray) (W : World) (h : X.data.toList = (altX l).take (altN l)) (hs : X.size ≤ 70000) (hm : MX W) :
    Calls Tryz.prog 62 #[.string X, .string ⟨#[46]⟩] W fun e w' => e = .returned (.tuple #[.string ⟨(altC l).1.toArray⟩, .string ⟨(altC l).2.1.toArray⟩, .bool (altC l).2.2]) ∧ Below W.heap.size W w' := by
  obtain ⟨m, hm⟩ := hm
  refine (Tryz.strings_Cut X ⟨#[46]⟩ m W (by omega) hm).mono ?_
  rintro e w' ⟨rfl, n, rfl⟩
  rw [h]
  exact ⟨rfl, pw_below_drewN (Below.refl _ _) n⟩
theorem cut_size (l s : List UInt8) : (Lib.cut l s).1.length ≤ l.length ∧ (Lib.cut l s).2.1.length ≤ l.length := by
  unfold Lib.cut
  split
  · simp only [List.length_take, List.length_drop]; omega
  · simp
theorem altC_size (l : List UInt8) (h : l.length ≤ 70000) : (⟨(altC l).1.toArray⟩ : ByteArray).size ≤ 70000 ∧ (⟨(altC l).2.1.toArray⟩ : ByteArray).size ≤ 70000 := by
  have h1 := cut_size ((altX l).take (altN l)) [46]
  have h2 : (altX l).length ≤ l.length := by unfold altX Lib.trimPrefix; split <;> simp
  rw [List.length_take] at h1
  exact ⟨by show (altC l).1.toArray.size ≤ 70000; rw [List.size_toArray]; unfold altC; omega, by show (altC l).2.1.toArray.size ≤ 70000; rw [List.size_toArray]; unfold altC; omega⟩
set_option maxHeartbeats 8000000 in
set_option maxRecDepth 100000 in
theorem alternative_calls (s : ByteArray) (w : World) (hs : s.size ≤ 70000) (hm : MX w) :
    Calls Tryz.prog 63 #[.string s] w (AltE s.data.toList w) := by
  have HM := Aside0.mk hm
  have HSZ := Aside0.mk hs
  clear hm
  go_enter Tryz.func63, Tryz.ntmps63
  go_upto_region 2 with (fail)
  go_loopg [0, 3] s.size (fun gg v0 v3 wi => ∃ (t : ByteArray) (acc : List Q.S83) (So : Nat → Prop), t.size ≤ gg ∧ v0 = .string t ∧ t.size ≤ 70000 ∧ Aside0 (altV (s.data.toList.length + 1) s.data.toList = (altV (t.data.toList.length + 1) t.data.toList).map (acc ++ ·)) ∧ Aside0 (acc.length + t.size ≤ s.size) ∧ Aside0 (∀ k, So k → w.heap.size ≤ k) ∧ Aside0 (Kd.R Q.k83 83 wi w.heap.size So v3 acc) ∧ Aside0 (Below w.heap.size w wi))
  case atStart => exact ⟨s, [], fun _ => False, Nat.le_refl _, rfl, HSZ.out, ⟨by cases altV (s.data.toList.length + 1) s.data.toList <;> rfl⟩, ⟨by simp⟩, ⟨fun _ h => h.elim⟩, ⟨Kd.R_nil _ _ _ _ _⟩, ⟨Below.refl _ _⟩⟩
  case round =>
    obtain ⟨t, acc, So, hgg, rfl, ht, HE, HL, HSo, HR, HB⟩ := hrel
    obtain ⟨A, c, rfl⟩ := Kd.R_slice HR.out
    have HTD := Aside0.mk (Lib.toList_data t)
    cases q0 : t.toList.isEmpty with
    | true =>
      have h0 : t.data.toList = [] := by rw [← HTD.out]; simpa using q0
      have HV := Aside0.mk (show altV (s.data.toList.length + 1) s.data.toList = some acc by rw [HE.out, h0]; simp [altV])
      clear h0
      go_wp2
      go_ret
      exact ⟨HB.out, .inr ⟨acc, _, HV.out, rfl, Kd.R_mono HR.out HSo.out⟩⟩
    | false =>
      have hne : t.data.toList ≠ [] := fun h => by rw [← HTD.out] at h; rw [h] at q0; cases q0
      have HNE := Aside0.mk hne
      clear hne
      have HCP := Aside0.mk (Tryz.strings_CutPrefix t ⟨#[32]⟩ wr)
      generalize hl : t.data.toList = l at *
      have HLD := Aside0.mk hl
      have HLS := Aside0.mk (show l.length = t.size by rw [Lib.size_eq, hl])
      clear hl
      have HX := Aside0.mk (show (⟨(altX l).toArray⟩ : ByteArray) = ⟨(altX l).toArray⟩ from rfl)
      go_wp2_with fail
      refine (HCP.out).mono ?_
      rintro E w2 ⟨rfl, hw⟩
      subst hw
      have HIX := Aside0.mk (Tryz.strings_IndexByte ⟨(altX l).toArray⟩ 32 w2)
      rw [show Lib.trimPrefix l (⟨#[32]⟩ : ByteArray).data.toList = altX l from rfl]
      rw [show Lib.hasPrefix l (⟨#[32]⟩ : ByteArray).data.toList = Lib.hasPrefix l [32] from rfl]
      generalize hX : (⟨(altX l).toArray⟩ : ByteArray) = X at *
      have HXD := Aside0.mk (show X.data.toList = altX l by rw [← hX])
      have HXS := Aside0.mk (show X.size = (altX l).length by rw [Lib.size_eq, ← hX])
      clear hX
      go_wp2_with fail
      refine (HIX.out).mono ?_
      rintro E w3 ⟨rfl, hw⟩
      subst hw
      rw [show Lib.indexByte X.data.toList (Int.toNat 32).toUInt8 = Lib.indexByte (altX l) 32 by rw [HXD.out]; rfl]
      have HNI := Aside0.mk (show (altN l : Int) = (if Lib.indexByte (altX l) 32 < 0 then (X.size : Int) else Lib.indexByte (altX l) 32) by
        unfold altN
        have := index_len (altX l) 32
        rw [HXS.out]
        split <;> omega)
      have HXT := Aside0.mk (show (altX l).length ≤ t.size by rw [← HLS.out]; unfold altX Lib.trimPrefix; split <;> simp)
      have HCS := Aside0.mk (altC_size l (by have := HLS.out; omega))
      have HNX := Aside0.mk (show altN l ≤ X.size by rw [HXS.out]; exact altN_le l)
      generalize Lib.indexByte (altX l) 32 = ix at *
      cases q1 : decide (ix < 0) with
      | true =>
        have e1 := HNI.out
        rw [if_pos (of_decide_eq_true q1)] at e1
        have e2 : altN l = X.size := by omega
        have hnx := HNX.out
        have HSD := Aside0.mk (show X.data.toList = (altX l).take (altN l) by rw [e2, HXS.out, List.take_length, HXD.out])
        have HSS := Aside0.mk (Nat.le_refl X.size)
        have HCU := Aside0.mk (cutP_calls l X w3 (by rw [HSD.out]) (by have := HXS.out; have := HXT.out; have := HSS.out; omega) (HM.out.below HB.out))
        go_wp2_with fail
        refine (HCU.out).mono ?_
        rintro E w4 ⟨rfl, hb⟩
        have HB4 := Aside0.mk (below_then HB.out (HB.out).size hb)
        have HR4 := Aside0.mk (Kd.R_below HR.out hb)
        clear hb HB HR HCU
        cases q2 : Lib.hasPrefix l [32] with
        | false =>
          have HBAD := Aside0.mk (altV_bad HNE.out (by unfold altGo; rw [q2]; rfl))
          clear q2
          go_wp2
          exact ⟨rfl, HB4.out, .inl ⟨by rw [HE.out, HBAD.out]; rfl, rfl⟩⟩
        | true =>
        cases q3 : (altC l).2.2 with
        | false =>
          have HBAD := Aside0.mk (altV_bad HNE.out (by unfold altGo; rw [q3, q2]; rfl))
          clear q2
          go_wp2
          exact ⟨rfl, HB4.out, .inl ⟨by rw [HE.out, HBAD.out]; rfl, rfl⟩⟩
        | true =>
        have HN1 := Aside0.mk (number_calls ⟨(altC l).1.toArray⟩ w4 (HCS.out).1)
        go_wp2_with fail
        refine (HN1.out).mono ?_
        rintro E w5 ⟨rfl, hb⟩
        have HB5 := Aside0.mk (below_then HB4.out (HB4.out).size hb)
        have HR5 := Aside0.mk (Kd.R_below HR4.out hb)
        clear hb HB4 HR4 HN1
        cases q4 : numOk (altC l).1 with
        | false =>
          have HBAD := Aside0.mk (altV_bad HNE.out (by unfold altGo; rw [q4, q3, q2]; rfl))
          rw [show numE (altC l).1 = pbad by unfold numE; rw [q4]; rfl]
          unfold pbad
          clear q2 q3
          go_wp2
          exact ⟨rfl, HB5.out, .inl ⟨by rw [HE.out, HBAD.out]; rfl, rfl⟩⟩
        | true =>
        rw [show numE (altC l).1 = .returned (.int .i64 (num0V (altC l).1)) by unfold numE; rw [q4]; rfl]
        have HN2 := Aside0.mk (number_calls ⟨(altC l).2.1.toArray⟩ w5 (HCS.out).2)
        go_wp2_with fail
        refine (HN2.out).mono ?_
        rintro E w6 ⟨rfl, hb⟩
        have HB6 := Aside0.mk (below_then HB5.out (HB5.out).size hb)
        have HR6 := Aside0.mk (Kd.R_below HR5.out hb)
        clear hb HB5 HR5 HN2
        cases q5 : numOk (altC l).2.1 with
        | false =>
          have HBAD := Aside0.mk (altV_bad HNE.out (by unfold altGo; rw [q5, q4, q3, q2]; rfl))
          rw [show numE (altC l).2.1 = pbad by unfold numE; rw [q5]; rfl]
          unfold pbad
          clear q2 q3
          go_wp2
          exact ⟨rfl, HB6.out, .inl ⟨by rw [HE.out, HBAD.out]; rfl, rfl⟩⟩
        | true =>
        rw [show numE (altC l).2.1 = .returned (.int .i64 (num0V (altC l).2.1)) by unfold numE; rw [q5]; rfl]
        have hgo : altGo l = true := by unfold altGo; rw [q5, q4, q3, q2]; rfl
        have HNX2 := Aside0.mk (altV_next HNE.out hgo)
        have HPF := Aside0.mk (altX_len q2)
        have hll : (acc.length + 1) * 16 ≤ 140737488355328 := by have := HL.out; have := HSZ.out; omega
        clear q2 q3 q4 q5 hgo
        have HEE : altE l = ⟨num0V (altC l).1, num0V (altC l).2.1⟩ := rfl
        generalize num0V (altC l).1 = n1, num0V (altC l).2.1 = n2 at *
        have HE3 := Aside0.mk HEE
        clear HEE
        go_wp2_with ((with_reducible refine gate_builtin (b := .append) (xs := #[.tmp 39, .tmp 45]) rfl ?_); at_builtin; refine Kd.R_append Q.k83 (w0 := w) w.heap.size rfl (.tmp 39) (.tmp 45) 69 83 (.agg #[.int .i64 0, .int .i64 0]) 16 rfl Tryz.underlying69 Q.info83 rfl (by decide) (by decide) (.slice A acc.length c) acc ⟨n1, n2⟩ [.int .i64 n1, .int .i64 n2] (fun k => So k ∨ w6.heap.size ≤ k) (fun _ => False) rfl rfl (Q.k83_mkM _ _ _ ⟨n1, n2⟩) (fun _ hk => hk.elim) (fun k hk => .inr hk) (Kd.R_mono HR6.out (fun _ hk => .inl hk)) HB6.out (HB6.out).size hll ?_; intro v7 w7 ho7 hb7 hg7 hat7; have HR7 := Aside0.mk ho7; have HB7 := Aside0.mk hb7; clear ho7 hb7 hg7 hat7)
        have HTT := Aside0.mk (show ByteArray.empty.data.toList = altR l from by unfold altR; rw [e2, HXS.out, List.drop_length]; rfl)
        have HTZ := Aside0.mk (show ByteArray.empty.size < t.size by rw [Lib.size_eq, HTT.out, ← HLS.out]; exact (HNX2.out).2)
        go_roundg ByteArray.empty.size
        case measure => have := HTZ.out; omega
        case rel => exact ⟨ByteArray.empty, acc ++ [⟨n1, n2⟩], _, Nat.le_refl _, rfl, by have := HTZ.out; omega, ⟨by rw [HE.out, (HNX2.out).1, HTT.out, HE3.out, Option.map_map]; congr 1; funext y; simp⟩, ⟨by have := HL.out; have := HTZ.out; rw [List.length_append, List.length_singleton]; omega⟩, ⟨fun k hk => hk.elim (HSo.out k) (fun h => by have := (HB6.out).size; omega)⟩, HR7, HB7⟩
      | false =>
        have e1 := HNI.out
        rw [if_neg (of_decide_eq_false q1)] at e1
        have hnx := HNX.out
        subst e1
        have HSD := Aside0.mk (show (X.extract 0 (altN l)).data.toList = (altX l).take (altN l) by rw [Lib.extract_from_zero, HXD.out])
        have HSS := Aside0.mk (show (X.extract 0 (altN l)).size ≤ X.size by rw [ByteArray.size_extract]; omega)
        have HCU := Aside0.mk (cutP_calls l (X.extract 0 (altN l)) w3 (by rw [HSD.out]) (by have := HXS.out; have := HXT.out; have := HSS.out; omega) (HM.out.below HB.out))
        go_wp2_with fail
        refine (HCU.out).mono ?_
        rintro E w4 ⟨rfl, hb⟩
        have HB4 := Aside0.mk (below_then HB.out (HB.out).size hb)
        have HR4 := Aside0.mk (Kd.R_below HR.out hb)
        clear hb HB HR HCU
        cases q2 : Lib.hasPrefix l [32] with
        | false =>
          have HBAD := Aside0.mk (altV_bad HNE.out (by unfold altGo; rw [q2]; rfl))
          clear q2
          go_wp2
          exact ⟨rfl, HB4.out, .inl ⟨by rw [HE.out, HBAD.out]; rfl, rfl⟩⟩
        | true =>
        cases q3 : (altC l).2.2 with
        | false =>
          have HBAD := Aside0.mk (altV_bad HNE.out (by unfold altGo; rw [q3, q2]; rfl))
          clear q2
          go_wp2
          exact ⟨rfl, HB4.out, .inl ⟨by rw [HE.out, HBAD.out]; rfl, rfl⟩⟩
        | true =>
        have HN1 := Aside0.mk (number_calls ⟨(altC l).1.toArray⟩ w4 (HCS.out).1)
        go_wp2_with fail
        refine (HN1.out).mono ?_
        rintro E w5 ⟨rfl, hb⟩
        have HB5 := Aside0.mk (below_then HB4.out (HB4.out).size hb)
        have HR5 := Aside0.mk (Kd.R_below HR4.out hb)
        clear hb HB4 HR4 HN1
        cases q4 : numOk (altC l).1 with
        | false =>
          have HBAD := Aside0.mk (altV_bad HNE.out (by unfold altGo; rw [q4, q3, q2]; rfl))
          rw [show numE (altC l).1 = pbad by unfold numE; rw [q4]; rfl]
          unfold pbad
          clear q2 q3
          go_wp2
          exact ⟨rfl, HB5.out, .inl ⟨by rw [HE.out, HBAD.out]; rfl, rfl⟩⟩
        | true =>
        rw [show numE (altC l).1 = .returned (.int .i64 (num0V (altC l).1)) by unfold numE; rw [q4]; rfl]
        have HN2 := Aside0.mk (number_calls ⟨(altC l).2.1.toArray⟩ w5 (HCS.out).2)
        go_wp2_with fail
        refine (HN2.out).mono ?_
        rintro E w6 ⟨rfl, hb⟩
        have HB6 := Aside0.mk (below_then HB5.out (HB5.out).size hb)
        have HR6 := Aside0.mk (Kd.R_below HR5.out hb)
        clear hb HB5 HR5 HN2
        cases q5 : numOk (altC l).2.1 with
        | false =>
          have HBAD := Aside0.mk (altV_bad HNE.out (by unfold altGo; rw [q5, q4, q3, q2]; rfl))
          rw [show numE (altC l).2.1 = pbad by unfold numE; rw [q5]; rfl]
          unfold pbad
          clear q2 q3
          go_wp2
          exact ⟨rfl, HB6.out, .inl ⟨by rw [HE.out, HBAD.out]; rfl, rfl⟩⟩
        | true =>
        rw [show numE (altC l).2.1 = .returned (.int .i64 (num0V (altC l).2.1)) by unfold numE; rw [q5]; rfl]
        have hgo : altGo l = true := by unfold altGo; rw [q5, q4, q3, q2]; rfl
        have HNX2 := Aside0.mk (altV_next HNE.out hgo)
        have HPF := Aside0.mk (altX_len q2)
        have hll : (acc.length + 1) * 16 ≤ 140737488355328 := by have := HL.out; have := HSZ.out; omega
        clear q2 q3 q4 q5 hgo
        have HEE : altE l = ⟨num0V (altC l).1, num0V (altC l).2.1⟩ := rfl
        generalize num0V (altC l).1 = n1, num0V (altC l).2.1 = n2 at *
        have HE3 := Aside0.mk HEE
        clear HEE
        go_wp2_with ((with_reducible refine gate_builtin (b := .append) (xs := #[.tmp 39, .tmp 45]) rfl ?_); at_builtin; refine Kd.R_append Q.k83 (w0 := w) w.heap.size rfl (.tmp 39) (.tmp 45) 69 83 (.agg #[.int .i64 0, .int .i64 0]) 16 rfl Tryz.underlying69 Q.info83 rfl (by decide) (by decide) (.slice A acc.length c) acc ⟨n1, n2⟩ [.int .i64 n1, .int .i64 n2] (fun k => So k ∨ w6.heap.size ≤ k) (fun _ => False) rfl rfl (Q.k83_mkM _ _ _ ⟨n1, n2⟩) (fun _ hk => hk.elim) (fun k hk => .inr hk) (Kd.R_mono HR6.out (fun _ hk => .inl hk)) HB6.out (HB6.out).size hll ?_; intro v7 w7 ho7 hb7 hg7 hat7; have HR7 := Aside0.mk ho7; have HB7 := Aside0.mk hb7; clear ho7 hb7 hg7 hat7)
        have HTT := Aside0.mk (show (X.extract (altN l) X.size).data.toList = altR l from by rw [Lib.extract_to_end, HXD.out]; rfl)
        have HTZ := Aside0.mk (show (X.extract (altN l) X.size).size < t.size by rw [Lib.size_eq, HTT.out, ← HLS.out]; exact (HNX2.out).2)
        go_roundg (X.extract (altN l) X.size).size
        case measure => have := HTZ.out; omega
        case rel => exact ⟨(X.extract (altN l) X.size), acc ++ [⟨n1, n2⟩], _, Nat.le_refl _, rfl, by have := HTZ.out; omega, ⟨by rw [HE.out, (HNX2.out).1, HTT.out, HE3.out, Option.map_map]; congr 1; funext y; simp⟩, ⟨by have := HL.out; have := HTZ.out; rw [List.length_append, List.length_singleton]; omega⟩, ⟨fun k hk => hk.elim (HSo.out k) (fun h => by have := (HB6.out).size; omega)⟩, HR7, HB7⟩
end Go.Proofs.YtbmcigakiibncaaGreatDoor.H
namespace Go.Proofs.YtbmcigakiibncaaGreatDoor.H
open Go.RowKit Go.Proofs.YtbmcigakiibncaaGreatDoorW.PrintWords Go.Proofs.YtbmcigakiibncaaGreatDoorW.PrintLast Go.Proofs.YtbmcigakiibncaaGreatDoorW.PrintMore
set_option linter.unusedVariables false
def WordsB (s f : ByteArray) (w : World) (E : Ending) (w' : World) : Prop :=
  Below w.heap.size w w' ∧ ((chunks s 32).head? ≠ some f ∧ E = pbad ∨ (chunks s 32).head? = some f ∧ ∃ o, E = .returned (.slice (some ⟨w.heap.size, o, none⟩) ((chunks s 32).drop 1).length ((chunks s 32).drop 1).length) ∧ (((chunks s 32).drop 1).length = 0 ∨ o = 1) ∧ w'.heap[w.heap.size]? = some (.cells ((chunks s 32).map Value.string).toArray 9 (0, 0)))
set_option maxHeartbeats 4000000 in
theorem wordsB_calls (s f : ByteArray) (w : World) (hs : s.size ≤ 70000) (hm : MX w) :
    Calls Tryz.prog 60 #[.string s, .string f] w (WordsB s f w) := by
  have HS := Aside0.mk (split_calls s 32 w hs hm)
  obtain ⟨p, r, he, hr⟩ := chunks_ne s 32
  have HB := Aside0.mk (below_alloc (Below.refl w.heap.size w) (.cells ((p :: r).map Value.string).toArray 9))
  have HE := Aside0.mk he
  rw [he] at HS
  have HC := Aside0.mk (blk_new w (.cells ((p :: r).map Value.string).toArray 9))
  have hk0 : (w.alloc (.cells ((p :: r).map Value.string).toArray 9)).cell? ⟨w.heap.size, 0, none⟩ = some (.string p) := (blk_cell (blk_new w _) 0).trans rfl
  clear he hr hm
  go_enter Tryz.func60, Tryz.ntmps60
  go_wp2_with fail
  refine (HS.out).mono ?_
  rintro E w2 ⟨rfl, rfl⟩
  generalize hW : w.alloc (.cells ((p :: r).map Value.string).toArray 9) = W2 at *
  clear hW
  cases q : (p.toList == f.toList) with
  | false =>
    have HQ := Aside0.mk (string_ne q)
    go_wp2
    exact ⟨rfl, HB.out, .inl ⟨by rw [HE.out]; exact fun e => HQ.out (Option.some.inj e), rfl⟩⟩
  | true =>
    have HQ := Aside0.mk (string_inj q)
    go_wp2
    · go_ret
      subst h
      exact ⟨HB.out, .inr ⟨by rw [HE.out, HQ.out]; rfl, 0, by rw [HE.out]; rfl, .inl (by rw [HE.out]; rfl), by rw [HE.out]; exact HC.out⟩⟩
    · go_ret
      exact ⟨HB.out, .inr ⟨by rw [HE.out, HQ.out]; rfl, 1, by rw [HE.out]; rfl, .inr rfl, by rw [HE.out]; exact HC.out⟩⟩
theorem catch_idle (p q : Addr) (w : World) :
    CallsD Tryz.prog 58 #[.pointer (some p), .pointer (some q)] .returning w fun e u' w' => e = .returned (.tuple #[]) ∧ u' = .returning ∧ w' = w := by
  refine callsD_of_wpS Tryz.func58 rfl fun c₀ cs hu => ?_
  apply wpS_seq
  apply wpS_region
  simp [wpOpsS, go_sem, recoverD, hu, Tryz.ntmps58, Exit.thenS]
  apply wpS_seq
  apply wpS_region
  simp [wpOpsS, go_sem, Exit.thenS]
  refine wpS_cond (t := false) (by simp [Act.eval, Array.replicate]) ?_
  simp only [Bool.false_eq_true, if_false]
  refine wpS_of_wp (wp_skip ?_)
  cases c₀
  simp_all [bodyPostS, results, Tryz.results58]
set_option maxHeartbeats 4000000 in
set_option maxRecDepth 100000 in
theorem catch_bad (a : Nat) (x y z e : Value) (w : World) (h0 : w.heap[a]? = some (.cells #[x, y, z] 25 (0, 0))) (h1 : w.heap[a + 1]? = some (.cells #[e] 29 (0, 0))) :
    CallsD Tryz.prog 58 #[.pointer (some ⟨a, 0, none⟩), .pointer (some ⟨a + 1, 0, none⟩)] (.panicking [{ v := .iface 89 (.agg #[]), recovered := false }]) w fun e u' w' =>
      e = .returned (.tuple #[]) ∧ u' = .panicking [{ v := .iface 89 (.agg #[]), recovered := true }] ∧ w'.heap[a]? = some (.cells #[.slice none 0 0, .int .i64 0, .slice none 0 0] 25 (0, 0)) ∧ w'.heap[a + 1]? = some (.cells #[.int .i64 4] 29 (0, 0)) ∧ Below a w w' := by
  refine callsD_of_wpS Tryz.func58 rfl fun c₀ cs hu => ?_
  apply wpS_seq
  apply wpS_region
  simp [wpOpsS, go_sem, recoverD, hu, Tryz.ntmps58, Exit.thenS]
  refine wpS_of_wp ?_
  rw [show (#[Value.pointer (some ⟨a, 0, none⟩), Value.pointer (some ⟨a + 1, 0, none⟩)] ++ ((Array.replicate 15 undef).setIfInBounds 3 (Value.iface 89 (Value.agg #[]))).setIfInBounds 0 (Value.iface 89 (Value.agg #[]))) = #[Value.pointer (some ⟨a, 0, none⟩), Value.pointer (some ⟨a + 1, 0, none⟩), Value.iface 89 (Value.agg #[]), undef, undef, Value.iface 89 (Value.agg #[]), undef, undef, undef, undef, undef, undef, undef, undef, undef, undef, undef] from rfl]
  have hta : ∀ W : World, (Instr.typeAssert (Value.iface 89 (Value.agg #[])) 20 89 true).run Tryz.prog W = .ok (.tuple #[.agg #[], .bool true]) W := fun W => by kernel_rfl
  have HB := Aside0.mk (below_alloc (Below.refl w.heap.size w) (.cells #[] 89))
  have HQ0 := Aside0.mk hu
  have ha : a < w.heap.size := (Array.getElem?_eq_some_iff.1 h0).1
  generalize hQ : bodyPostS Tryz.prog Tryz.f58 c₀ cs _ = QQ
  have HQ := Aside0.mk hQ
  clear hQ
  go_upto_region 5 with (fail)
  have H0 := Aside0.mk (blk_below h0 HB.out)
  have H1 := Aside0.mk (blk_below h1 HB.out)
  clear h0 h1
  generalize w.alloc (.cells #[] 89) = W2 at *
  have c0 : W2.cell? ⟨a, 0, none⟩ = some x := (blk_cell H0.out 0).trans rfl
  have c1 : W2.cell? ⟨a, 1, none⟩ = some y := (blk_cell H0.out 1).trans rfl
  have c2 : W2.cell? ⟨a, 2, none⟩ = some z := (blk_cell H0.out 2).trans rfl
  have c3 : W2.cell? ⟨a + 1, 0, none⟩ = some e := (blk_cell H1.out 0).trans rfl
  have f0 : W2.frozen? ⟨a, 0, none⟩ = false := blk_frozen H0.out 0
  have f1 : W2.frozen? ⟨a, 1, none⟩ = false := blk_frozen H0.out 1
  have f2 : W2.frozen? ⟨a, 2, none⟩ = false := blk_frozen H0.out 2
  have f3 : W2.frozen? ⟨a + 1, 0, none⟩ = false := blk_frozen H1.out 0
  go_wp2
  rw [← HQ.out]
  have hB := Below.mono HB.out (show a ≤ w.heap.size from Nat.le_of_lt ha)
  clear c0 c1 c2 c3 f0 f1 f2 f3
  refine ⟨rfl, _, rfl, _, results_none rfl _ _ _, rfl, rfl, ?_, ?_, ?_⟩
  · exact blk_far (blk_set (blk_set (blk_set H0.out 0 _) 1 _) 2 _) (by show a ≠ a + 1; omega) _
  · exact blk_set (blk_far (blk_far (blk_far H1.out (by show a + 1 ≠ a; omega) _) (by show a + 1 ≠ a; omega) _) (by show a + 1 ≠ a; omega) _) 0 _
  · exact (((hB.setCell (p := ⟨a, 0, none⟩) (Nat.le_refl a) _).setCell (p := ⟨a, 1, none⟩) (Nat.le_refl a) _).setCell (p := ⟨a, 2, none⟩) (Nat.le_refl a) _).setCell (p := ⟨a + 1, 0, none⟩) (Nat.le_succ a) _
end Go.Proofs.YtbmcigakiibncaaGreatDoor.H
namespace Go.Proofs.YtbmcigakiibncaaGreatDoor.H
open Go.RowKit Go.Proofs.YtbmcigakiibncaaGreatDoorW.PrintWords Go.Proofs.YtbmcigakiibncaaGreatDoorW.PrintLast Go.Proofs.YtbmcigakiibncaaGreatDoorW.PrintMore
set_option linter.unusedVariables false
def sRanks : ByteArray := ⟨#[114, 97, 110, 107, 115]⟩
def sStates : ByteArray := ⟨#[115, 116, 97, 116, 101, 115]⟩
def sStart : ByteArray := ⟨#[115, 116, 97, 114, 116]⟩
def okW (s : ByteArray) : Bool := numOk s.data.toList
def valW (s : ByteArray) : Int := num0V s.data.toList
def lnAt (s : ByteArray) : List UInt8 × List UInt8 × Bool := Lib.cut s.data.toList [58]
def lnXY (s : ByteArray) : List UInt8 × List UInt8 × Bool := Lib.cut (lnAt s).1 [32]
def lnGo (s : ByteArray) : Bool := (lnAt s).2.2 && (lnXY s).2.2 && numOk (lnXY s).1 && numOk (lnXY s).2.1
def lnQ (s : ByteArray) : Int := num0V (lnXY s).1
def lnF (s : ByteArray) : Int := num0V (lnXY s).2.1
def lnZ (s : ByteArray) : Option (List Nd) := altV ((lnAt s).2.1.length + 1) (lnAt s).2.1
def lnOk (states m last : Int) (s : ByteArray) : Bool := !(decide (lnQ s ≥ states) || decide (lnF s ≥ m) || decide (lnQ s * m + lnF s < last))
def addAlt (M : Mv) (q f : Nat) (z : List Nd) : Mv := M.set q ((M.getD q []).set f ((M.getD q []).getD f [] ++ [z]))
def gstep (states : Int) (m : Nat) : List ByteArray → Int → Mv → Option Mv
  | [], _, M => some M
  | s :: r, last, M => if lnGo s && lnOk states m last s then (match lnZ s with | none => none | some z => gstep states m r (lnQ s * m + lnF s) (if lnQ s < M.length then addAlt M (lnQ s).toNat (lnF s).toNat z else M)) else none
def secOk (ws : List ByteArray) : Bool := match ws with | [a, b, c] => decide (b = sStart) && okW a && okW c | _ => false
def getV (t : ByteArray) : Option (List Int × Int × Mv) :=
  let L := chunks t 10
  if 3 ≤ L.length ∧ L.getD (L.length - 1) ByteArray.empty = ByteArray.empty then
    let a := chunks (L.getD 0 ByteArray.empty) 32
    let b := chunks (L.getD 1 ByteArray.empty) 32
    if a.head? = some sRanks ∧ (a.drop 1).all okW = true ∧ b.head? = some sStates ∧ secOk (b.drop 1) = true then
      let rk := (a.drop 1).map valW
      let states := valW (b.getD 1 ByteArray.empty)
      (gstep states rk.length ((L.drop 2).take (L.length - 3)) (-1) (List.replicate (min states 7).toNat (List.replicate rk.length []))).map fun M => (rk, valW (b.getD 3 ByteArray.empty), M)
    else none
  else none
def getR (t : ByteArray) : Int × List Int × Int × Mv :=
  if 65536 < t.size then (3, [], 0, []) else match getV t with | none => (4, [], 0, []) | some (rk, st, M) => if chkA rk st M = 0 then (0, rk, st, M) else (10, [], 0, [])
def GetE (t : ByteArray) (w : World) (E : Ending) (w' : World) : Prop :=
  ∃ A1 c1 A2 c2, E = .returned (.tuple #[.agg #[.slice A1 (getR t).2.1.length c1, .int .i64 (getR t).2.2.1, .slice A2 (getR t).2.2.2.length c2], .int .i64 (getR t).1]) ∧ Kd.C (Kd.int .i64) w' A1 (getR t).2.1.length (getR t).2.1 ∧ (getR t).2.1.length ≤ c1 ∧ Kd.C kA3 w' A2 (getR t).2.2.2.length (getR t).2.2.2 ∧ (getR t).2.2.2.length ≤ c2 ∧ Below w.heap.size w w'
end Go.Proofs.YtbmcigakiibncaaGreatDoor.H
