/- What specAuto_calls needs, out of my texts, by a program (slim.py). -/
import Derived.Test.YtmphigeefppfpaaS42
namespace Go.Proofs.Ytmphigeefppfpaa.Q
open Go.RowKit Go.Proofs.YtmphigeefppfpaaW.PrintWords Go.Proofs.YtmphigeefppfpaaW.PrintLast Go.Proofs.YtmphigeefppfpaaW.PrintMore
attribute [local go_sem] max2_int min2_int max_two min_two max_three min_three max_four min_four
set_option linter.unusedVariables false
set_option linter.unusedSimpArgs false
def virgationref09_alternatives.l0 : Nat → List (List (S78)) → Int → Int → List (List (S78)) → Int → Int → Option (Bool)
  | 0, _, _, _, _, _, _ => none
  | k + 1, x0, x1, x2, x12, x13, x14 => if x14 < x13 then (if 0 ≤ x14 then (if x14 < (x12.length : Int) then ((virgationref09_alternative.f k (rd_L3 x12 x14) x1 x2).bind fun t176 => (if t176 = true then (if x14 > 0 then (if 0 ≤ (wrap64 (x14 - 1)) then (if (wrap64 (x14 - 1)) < (x0.length : Int) then ((virgationref09_Compare.f k (rd_L3 x0 (wrap64 (x14 - 1))) (rd_L3 x12 x14)).bind fun t178 => (if t178 ≥ 0 then (some false) else (virgationref09_alternatives.l0 k x0 x1 x2 x12 x13 (wrap64 (x14 + 1))))) else (none)) else (none)) else (virgationref09_alternatives.l0 k x0 x1 x2 x12 x13 (wrap64 (x14 + 1)))) else (some false))) else (none)) else (none)) else (some true)
def virgationref09_alternatives.f (k : Nat) (l0 : List (List (S78))) (a1 : Int) (a2 : Int) : Option (Bool) := if (l0.length : Int) > 12 then (some false) else (virgationref09_alternatives.l0 k l0 a1 a2 l0 (l0.length : Int) 0)
set_option maxHeartbeats 8000000 in
set_option maxRecDepth 100000 in
theorem virgationref09_alternatives.calls (k : Nat) (A0 : Option Addr) (c0 : Nat) (l0 : List (List (S78))) (a1 : Int) (a2 : Int) (r : Bool) (w : World) (hr0 : Kd.C (Kd.slice 78 k78) w A0 l0.length l0) (hc0 : l0.length ≤ c0) (h : virgationref09_alternatives.f k l0 a1 a2 = some r) :
    Calls Try.prog 69 #[.slice A0 l0.length c0, .int .i64 a1, .int .i64 a2] w fun e w' => e = .returned (.bool r) ∧ Below w.heap.size w w' := by
  have HR0 := Aside0.mk hr0
  have HC0 := Aside0.mk hc0
  clear hr0 hc0
  have HB := Aside0.mk (Below.refl w.heap.size w)
  have H : (if (l0.length : Int) > 12 then (some false) else (virgationref09_alternatives.l0 k l0 a1 a2 l0 (l0.length : Int) 0)) = some r := h
  clear h
  by_cases c4 : (l0.length : Int) > 12
  · rw [if_pos c4] at H
    have c4b0 : decide (12 < (l0.length : Int)) = true := decide_eq_true c4
    have c4b1 : decide (12 < l0.length) = true := decide_eq_true (by omega)
    clear c4
    obtain rfl := Option.some.inj H
    go_enter Try.func69, Try.ntmps69
    go_wp2
    go_ret
    exact ⟨by first | rfl | (simp [errW_none, errW_some] <;> rfl) | (simp [*, errW_none, errW_some] <;> rfl), by repeat (first | (with_reducible first | exact HB.out | apply below_alloc | apply pw_below_drewN | apply below_drew1) | exact HB.out)⟩
  · rw [if_neg c4] at H
    have c4b0 : decide (12 < (l0.length : Int)) = false := decide_eq_false c4
    have c4b1 : decide (12 < l0.length) = false := decide_eq_false (by omega)
    clear c4
    have H' := Aside0.mk H
    clear H
    go_enter Try.func69, Try.ntmps69
    go_wp2
    go_loopg [14] k (fun kq v14 w' => ∃ (x14_1 : Int), v14 = .int .i64 x14_1 ∧ Aside0 (virgationref09_alternatives.l0 kq l0 a1 a2 l0 (l0.length : Int) x14_1 = some r) ∧ Aside0 (kq ≤ k) ∧ Aside0 (Below w.heap.size w w'))
    case atStart => exact ⟨(0), (by first | rfl | (simp; done) | (simp [*]; done)), H', ⟨Nat.le_refl _⟩, ⟨by repeat (first | (with_reducible first | exact HB.out | apply below_alloc | apply pw_below_drewN | apply below_drew1) | exact HB.out)⟩⟩
    case round =>
      clear H'
      try clear p2
      try clear c4
      try clear c4b0
      try clear c4b1
      obtain ⟨x14_1, rfl, HA, HK1, HB⟩ := hrel
      cases gk with
      | zero => exact absurd HA.out (by simp [virgationref09_alternatives.l0])
      | succ k1 =>
        have H := HA.out
        clear HA
        simp only [virgationref09_alternatives.l0] at H
        by_cases c5 : x14_1 < (l0.length : Int)
        · rw [if_pos c5] at H
          have c5b0 : decide (x14_1 < (l0.length : Int)) = true := decide_eq_true c5
          clear c5
          by_cases c6 : 0 ≤ x14_1
          · rw [if_pos c6] at H
            have c6b0 : decide (0 ≤ x14_1) = true := decide_eq_true c6
            clear c6
            by_cases c7 : x14_1 < (l0.length : Int)
            · rw [if_pos c7] at H
              have c7b0 : decide (x14_1 < (l0.length : Int)) = true := decide_eq_true c7
              clear c7
              replace H := Option.bind_eq_some_iff.mp H
              obtain ⟨t176, A80, H⟩ := H
              replace H : (if t176 = true then (if x14_1 > 0 then (if 0 ≤ (wrap64 (x14_1 - 1)) then (if (wrap64 (x14_1 - 1)) < (l0.length : Int) then ((virgationref09_Compare.f k1 (rd_L3 l0 (wrap64 (x14_1 - 1))) (rd_L3 l0 x14_1)).bind fun t178 => (if t178 ≥ 0 then (some false) else (virgationref09_alternatives.l0 k1 l0 a1 a2 l0 (l0.length : Int) (wrap64 (x14_1 + 1))))) else (none)) else (none)) else (virgationref09_alternatives.l0 k1 l0 a1 a2 l0 (l0.length : Int) (wrap64 (x14_1 + 1)))) else (some false)) = some r := H
              have A8 := Aside0.mk A80
              clear A80
              by_cases c9 : t176 = true
              · subst c9
                have H1 : (if x14_1 > 0 then (if 0 ≤ (wrap64 (x14_1 - 1)) then (if (wrap64 (x14_1 - 1)) < (l0.length : Int) then ((virgationref09_Compare.f k1 (rd_L3 l0 (wrap64 (x14_1 - 1))) (rd_L3 l0 x14_1)).bind fun t178 => (if t178 ≥ 0 then (some false) else (virgationref09_alternatives.l0 k1 l0 a1 a2 l0 (l0.length : Int) (wrap64 (x14_1 + 1))))) else (none)) else (none)) else (virgationref09_alternatives.l0 k1 l0 a1 a2 l0 (l0.length : Int) (wrap64 (x14_1 + 1)))) = some r := by rw [if_pos rfl] at H; exact H
                clear H
                have H := H1
                clear H1
                by_cases c10 : x14_1 > 0
                · rw [if_pos c10] at H
                  have c10b0 : decide (0 < x14_1) = true := decide_eq_true c10
                  clear c10
                  obtain ⟨ji11, hji11⟩ : ∃ j_ : Int, (wrap64 (x14_1 - 1)) = j_ := ⟨_, rfl⟩
                  replace H : (if 0 ≤ (ji11) then (if (ji11) < (l0.length : Int) then ((virgationref09_Compare.f k1 (rd_L3 l0 (ji11)) (rd_L3 l0 x14_1)).bind fun t178 => (if t178 ≥ 0 then (some false) else (virgationref09_alternatives.l0 k1 l0 a1 a2 l0 (l0.length : Int) (wrap64 (x14_1 + 1))))) else (none)) else (none)) = some r := by first | (rw [hji11] at H; exact H) | (simp only [hji11] at H ⊢; exact H)
                  (try rw [hji11] at A8)
                  have hji11w : (IntKind.i64.wrap (x14_1 - 1)) = ji11 := (i64_w _).trans hji11
                  by_cases c12 : 0 ≤ (ji11)
                  · rw [if_pos c12] at H
                    have c12b0 : decide (0 ≤ (ji11)) = true := decide_eq_true c12
                    clear c12
                    by_cases c13 : (ji11) < (l0.length : Int)
                    · rw [if_pos c13] at H
                      have c13b0 : decide ((ji11) < (l0.length : Int)) = true := decide_eq_true c13
                      clear c13
                      replace H := Option.bind_eq_some_iff.mp H
                      obtain ⟨t178, A140, H⟩ := H
                      replace H : (if t178 ≥ 0 then (some false) else (virgationref09_alternatives.l0 k1 l0 a1 a2 l0 (l0.length : Int) (wrap64 (x14_1 + 1)))) = some r := H
                      have A14 := Aside0.mk A140
                      clear A140
                      by_cases c15 : t178 ≥ 0
                      · rw [if_pos c15] at H
                        have c15b0 : decide (0 ≤ t178) = true := decide_eq_true c15
                        clear c15
                        obtain rfl := Option.some.inj H
                        have p175 : 0 ≤ (x14_1 : Int) := of_decide_eq_true (by first | (with_reducible assumption) | assumption)
                        have q175 : x14_1 < (l0.length : Int) := of_decide_eq_true (by first | (with_reducible assumption) | assumption)
                        obtain ⟨ad175, A175_0, c175_0, e175, hx175_0, hl175_0, hi175_0⟩ := at_L3 HR0.out x14_1 p175 q175
                        cases e175
                        replace hx175_0 := (HB.out.cell (World.block_lt_of_cell? w _ hx175_0)).trans hx175_0
                        have HR175_0 := Aside0.mk hi175_0
                        have HC175_0 := Aside0.mk hl175_0
                        clear hi175_0 hl175_0
                        replace p175 := eq_true p175
                        replace q175 := eq_true q175
                        go_wp2_with (first | ((with_reducible refine gate_callee (f := 71) rfl ?_); refine goesL_ (some 22) rfl rfl Try.func71 (by kernel_rfl) rfl #[.slice A175_0 (rd_L3 l0 x14_1).length c175_0, .int .i64 a1, .int .i64 a2] rfl (by (try simp only [List.map_toArray, List.map_cons, List.map_nil]); first | done | rfl | (simp only [List.length_drop, List.length_take]; rfl)) ?_; (with_reducible refine (virgationref09_alternative.calls k1 _ _ (rd_L3 l0 x14_1) a1 a2 true _ ?side1 ?side2 A8.out).mono ?_); (case side1 => repeat (first | exact (Kd.C_below HR175_0.out HB.out) | (with_reducible refine Kd.C_alloc ?_ _) | (with_reducible refine Kd.C_drewN ?_ _) | (with_reducible refine Kd.C_drew ?_))); (case side2 => exact HC175_0.out); rintro e w16 ⟨rfl, hb⟩; refine ⟨_, rfl, ?_⟩; have n0_ := Aside0.mk (below_step (by repeat (first | (with_reducible first | exact HB.out | apply below_alloc | apply pw_below_drewN | apply below_drew1) | exact HB.out)) hb); clear HB; have HB := n0_; clear n0_; (try clear hb); (try clear hb2); (try clear hk); (try clear hi); have p177 : 0 ≤ ((ji11) : Int) := of_decide_eq_true (by first | (with_reducible assumption) | assumption); have q177 : (ji11) < (l0.length : Int) := of_decide_eq_true (by first | (with_reducible assumption) | assumption); obtain ⟨ad177, A177_0, c177_0, e177, hx177_0, hl177_0, hi177_0⟩ := at_L3 HR0.out (ji11) p177 q177; obtain rfl : ad175 = ad177 := (by injection e177); replace hx177_0 := (HB.out.cell (World.block_lt_of_cell? w _ hx177_0)).trans hx177_0; have HR177_0 := Aside0.mk hi177_0; have HC177_0 := Aside0.mk hl177_0; clear hi177_0 hl177_0; replace p177 := eq_true p177; replace q177 := eq_true q177) | (go_at_call 70; (with_reducible refine (virgationref09_Compare.calls k1 _ _ (rd_L3 l0 (ji11)) _ _ (rd_L3 l0 x14_1) t178 _ ?side1 ?side2 ?side3 ?side4 A14.out).mono ?_); (case side1 => repeat (first | exact (Kd.C_below HR177_0.out HB.out) | (with_reducible refine Kd.C_alloc ?_ _) | (with_reducible refine Kd.C_drewN ?_ _) | (with_reducible refine Kd.C_drew ?_))); (case side2 => exact HC177_0.out); (case side3 => repeat (first | exact (Kd.C_below HR175_0.out HB.out) | (with_reducible refine Kd.C_alloc ?_ _) | (with_reducible refine Kd.C_drewN ?_ _) | (with_reducible refine Kd.C_drew ?_))); (case side4 => exact HC175_0.out); rintro e w17 ⟨rfl, hb⟩; have n0_ := Aside0.mk (below_step (by repeat (first | (with_reducible first | exact HB.out | apply below_alloc | apply pw_below_drewN | apply below_drew1) | exact HB.out)) hb); clear HB; have HB := n0_; clear n0_; (try clear hb); (try clear hb2); (try clear hk); (try clear hi)))
                        go_ret
                        exact ⟨by first | rfl | (simp [errW_none, errW_some] <;> rfl) | (simp only [← hji11]; first | rfl | (simp [errW_none, errW_some] <;> rfl)) | (simp [*, errW_none, errW_some] <;> rfl), by repeat (first | (with_reducible first | exact HB.out | apply below_alloc | apply pw_below_drewN | apply below_drew1) | exact HB.out)⟩
                      · rw [if_neg c15] at H
                        have c15b0 : decide (0 ≤ t178) = false := decide_eq_false c15
                        clear c15
                        have H' := Aside0.mk H
                        clear H
                        have p175 : 0 ≤ (x14_1 : Int) := of_decide_eq_true (by first | (with_reducible assumption) | assumption)
                        have q175 : x14_1 < (l0.length : Int) := of_decide_eq_true (by first | (with_reducible assumption) | assumption)
                        obtain ⟨ad175, A175_0, c175_0, e175, hx175_0, hl175_0, hi175_0⟩ := at_L3 HR0.out x14_1 p175 q175
                        cases e175
                        replace hx175_0 := (HB.out.cell (World.block_lt_of_cell? w _ hx175_0)).trans hx175_0
                        have HR175_0 := Aside0.mk hi175_0
                        have HC175_0 := Aside0.mk hl175_0
                        clear hi175_0 hl175_0
                        replace p175 := eq_true p175
                        replace q175 := eq_true q175
                        go_wp2_with (first | ((with_reducible refine gate_callee (f := 71) rfl ?_); refine goesL_ (some 22) rfl rfl Try.func71 (by kernel_rfl) rfl #[.slice A175_0 (rd_L3 l0 x14_1).length c175_0, .int .i64 a1, .int .i64 a2] rfl (by (try simp only [List.map_toArray, List.map_cons, List.map_nil]); first | done | rfl | (simp only [List.length_drop, List.length_take]; rfl)) ?_; (with_reducible refine (virgationref09_alternative.calls k1 _ _ (rd_L3 l0 x14_1) a1 a2 true _ ?side1 ?side2 A8.out).mono ?_); (case side1 => repeat (first | exact (Kd.C_below HR175_0.out HB.out) | (with_reducible refine Kd.C_alloc ?_ _) | (with_reducible refine Kd.C_drewN ?_ _) | (with_reducible refine Kd.C_drew ?_))); (case side2 => exact HC175_0.out); rintro e w18 ⟨rfl, hb⟩; refine ⟨_, rfl, ?_⟩; have n0_ := Aside0.mk (below_step (by repeat (first | (with_reducible first | exact HB.out | apply below_alloc | apply pw_below_drewN | apply below_drew1) | exact HB.out)) hb); clear HB; have HB := n0_; clear n0_; (try clear hb); (try clear hb2); (try clear hk); (try clear hi); have p177 : 0 ≤ ((ji11) : Int) := of_decide_eq_true (by first | (with_reducible assumption) | assumption); have q177 : (ji11) < (l0.length : Int) := of_decide_eq_true (by first | (with_reducible assumption) | assumption); obtain ⟨ad177, A177_0, c177_0, e177, hx177_0, hl177_0, hi177_0⟩ := at_L3 HR0.out (ji11) p177 q177; obtain rfl : ad175 = ad177 := (by injection e177); replace hx177_0 := (HB.out.cell (World.block_lt_of_cell? w _ hx177_0)).trans hx177_0; have HR177_0 := Aside0.mk hi177_0; have HC177_0 := Aside0.mk hl177_0; clear hi177_0 hl177_0; replace p177 := eq_true p177; replace q177 := eq_true q177) | (go_at_call 70; (with_reducible refine (virgationref09_Compare.calls k1 _ _ (rd_L3 l0 (ji11)) _ _ (rd_L3 l0 x14_1) t178 _ ?side1 ?side2 ?side3 ?side4 A14.out).mono ?_); (case side1 => repeat (first | exact (Kd.C_below HR177_0.out HB.out) | (with_reducible refine Kd.C_alloc ?_ _) | (with_reducible refine Kd.C_drewN ?_ _) | (with_reducible refine Kd.C_drew ?_))); (case side2 => exact HC177_0.out); (case side3 => repeat (first | exact (Kd.C_below HR175_0.out HB.out) | (with_reducible refine Kd.C_alloc ?_ _) | (with_reducible refine Kd.C_drewN ?_ _) | (with_reducible refine Kd.C_drew ?_))); (case side4 => exact HC175_0.out); rintro e w19 ⟨rfl, hb⟩; have n0_ := Aside0.mk (below_step (by repeat (first | (with_reducible first | exact HB.out | apply below_alloc | apply pw_below_drewN | apply below_drew1) | exact HB.out)) hb); clear HB; have HB := n0_; clear n0_; (try clear hb); (try clear hb2); (try clear hk); (try clear hi)))
                        go_roundg k1
                        case measure => have := HK1.out; omega
                        case rel => exact ⟨(wrap64 (x14_1 + 1)), (by first | rfl | (simp; done) | (simp [*]; done)), H', ⟨by have := HK1.out; omega⟩, ⟨by repeat (first | (with_reducible first | exact HB.out | apply below_alloc | apply pw_below_drewN | apply below_drew1) | exact HB.out)⟩⟩
                    · rw [if_neg c13] at H
                      exact absurd H (by simp)
                  · rw [if_neg c12] at H
                    exact absurd H (by simp)
                · rw [if_neg c10] at H
                  have c10b0 : decide (0 < x14_1) = false := decide_eq_false c10
                  clear c10
                  have H' := Aside0.mk H
                  clear H
                  have p175 : 0 ≤ (x14_1 : Int) := of_decide_eq_true (by first | (with_reducible assumption) | assumption)
                  have q175 : x14_1 < (l0.length : Int) := of_decide_eq_true (by first | (with_reducible assumption) | assumption)
                  obtain ⟨ad175, A175_0, c175_0, e175, hx175_0, hl175_0, hi175_0⟩ := at_L3 HR0.out x14_1 p175 q175
                  cases e175
                  replace hx175_0 := (HB.out.cell (World.block_lt_of_cell? w _ hx175_0)).trans hx175_0
                  have HR175_0 := Aside0.mk hi175_0
                  have HC175_0 := Aside0.mk hl175_0
                  clear hi175_0 hl175_0
                  replace p175 := eq_true p175
                  replace q175 := eq_true q175
                  go_wp2_with (first | ((with_reducible refine gate_callee (f := 71) rfl ?_); refine goesL_ (some 22) rfl rfl Try.func71 (by kernel_rfl) rfl #[.slice A175_0 (rd_L3 l0 x14_1).length c175_0, .int .i64 a1, .int .i64 a2] rfl (by (try simp only [List.map_toArray, List.map_cons, List.map_nil]); first | done | rfl | (simp only [List.length_drop, List.length_take]; rfl)) ?_; (with_reducible refine (virgationref09_alternative.calls k1 _ _ (rd_L3 l0 x14_1) a1 a2 true _ ?side1 ?side2 A8.out).mono ?_); (case side1 => repeat (first | exact (Kd.C_below HR175_0.out HB.out) | (with_reducible refine Kd.C_alloc ?_ _) | (with_reducible refine Kd.C_drewN ?_ _) | (with_reducible refine Kd.C_drew ?_))); (case side2 => exact HC175_0.out); rintro e w20 ⟨rfl, hb⟩; refine ⟨_, rfl, ?_⟩; have n0_ := Aside0.mk (below_step (by repeat (first | (with_reducible first | exact HB.out | apply below_alloc | apply pw_below_drewN | apply below_drew1) | exact HB.out)) hb); clear HB; have HB := n0_; clear n0_; (try clear hb); (try clear hb2); (try clear hk); (try clear hi)))
                  go_roundg k1
                  case measure => have := HK1.out; omega
                  case rel => exact ⟨(wrap64 (x14_1 + 1)), (by first | rfl | (simp; done) | (simp [*]; done)), H', ⟨by have := HK1.out; omega⟩, ⟨by repeat (first | (with_reducible first | exact HB.out | apply below_alloc | apply pw_below_drewN | apply below_drew1) | exact HB.out)⟩⟩
              · replace c9 := Bool.eq_false_iff.mpr c9
                subst c9
                have H1 : (some false) = some r := by rw [if_neg (show ¬ (false = true) by decide)] at H; exact H
                clear H
                have H := H1
                clear H1
                obtain rfl := Option.some.inj H
                have p175 : 0 ≤ (x14_1 : Int) := of_decide_eq_true (by first | (with_reducible assumption) | assumption)
                have q175 : x14_1 < (l0.length : Int) := of_decide_eq_true (by first | (with_reducible assumption) | assumption)
                obtain ⟨ad175, A175_0, c175_0, e175, hx175_0, hl175_0, hi175_0⟩ := at_L3 HR0.out x14_1 p175 q175
                cases e175
                replace hx175_0 := (HB.out.cell (World.block_lt_of_cell? w _ hx175_0)).trans hx175_0
                have HR175_0 := Aside0.mk hi175_0
                have HC175_0 := Aside0.mk hl175_0
                clear hi175_0 hl175_0
                replace p175 := eq_true p175
                replace q175 := eq_true q175
                go_wp2_with (first | ((with_reducible refine gate_callee (f := 71) rfl ?_); refine goesL_ (some 22) rfl rfl Try.func71 (by kernel_rfl) rfl #[.slice A175_0 (rd_L3 l0 x14_1).length c175_0, .int .i64 a1, .int .i64 a2] rfl (by (try simp only [List.map_toArray, List.map_cons, List.map_nil]); first | done | rfl | (simp only [List.length_drop, List.length_take]; rfl)) ?_; (with_reducible refine (virgationref09_alternative.calls k1 _ _ (rd_L3 l0 x14_1) a1 a2 false _ ?side1 ?side2 A8.out).mono ?_); (case side1 => repeat (first | exact (Kd.C_below HR175_0.out HB.out) | (with_reducible refine Kd.C_alloc ?_ _) | (with_reducible refine Kd.C_drewN ?_ _) | (with_reducible refine Kd.C_drew ?_))); (case side2 => exact HC175_0.out); rintro e w21 ⟨rfl, hb⟩; refine ⟨_, rfl, ?_⟩; have n0_ := Aside0.mk (below_step (by repeat (first | (with_reducible first | exact HB.out | apply below_alloc | apply pw_below_drewN | apply below_drew1) | exact HB.out)) hb); clear HB; have HB := n0_; clear n0_; (try clear hb); (try clear hb2); (try clear hk); (try clear hi)))
                go_ret
                exact ⟨by first | rfl | (simp [errW_none, errW_some] <;> rfl) | (simp [*, errW_none, errW_some] <;> rfl), by repeat (first | (with_reducible first | exact HB.out | apply below_alloc | apply pw_below_drewN | apply below_drew1) | exact HB.out)⟩
            · rw [if_neg c7] at H
              exact absurd H (by simp)
          · rw [if_neg c6] at H
            exact absurd H (by simp)
        · rw [if_neg c5] at H
          have c5b0 : decide (x14_1 < (l0.length : Int)) = false := decide_eq_false c5
          clear c5
          obtain rfl := Option.some.inj H
          go_wp2
          go_ret
          exact ⟨by first | rfl | (simp [errW_none, errW_some] <;> rfl) | (simp [*, errW_none, errW_some] <;> rfl), by repeat (first | (with_reducible first | exact HB.out | apply below_alloc | apply pw_below_drewN | apply below_drew1) | exact HB.out)⟩
mutual
def virgationref09_Is.j0 : Nat → Int → Bool → List Int → Int → List (List (List (List (S78)))) → Option (Bool)
  | 0, _, _, _, _, _ => none
  | k + 1, x3, x33, x180000, x180001, x180002 => if x33 = true then (some false) else (virgationref09_Is.l0 k x3 x180002 (x180002.length : Int) 0 x180000 x180001 x180002)
def virgationref09_Is.l0 : Nat → Int → List (List (List (List (S78)))) → Int → Int → List Int → Int → List (List (List (List (S78)))) → Option (Bool)
  | 0, _, _, _, _, _, _, _ => none
  | k + 1, x3, x35, x36, x37, x180000, x180001, x180002 => if x37 < x36 then (if 0 ≤ x37 then (if x37 < (x35.length : Int) then (if ((rd_L5 x35 x37).length : Int) = (x180000.length : Int) then (virgationref09_Is.l1 k x3 x35 x36 x37 (rd_L5 x35 x37) ((rd_L5 x35 x37).length : Int) 0 x180000 x180001 x180002) else (some false)) else (none)) else (none)) else (some true)
def virgationref09_Is.l1 : Nat → Int → List (List (List (List (S78)))) → Int → Int → List (List (List (S78))) → Int → Int → List Int → Int → List (List (List (List (S78)))) → Option (Bool)
  | 0, _, _, _, _, _, _, _, _, _, _ => none
  | k + 1, x3, x35, x36, x37, x47, x48, x49, x180000, x180001, x180002 => if x49 < x48 then (if 0 ≤ x49 then (if x49 < (x47.length : Int) then (if x49 < (x180000.length : Int) then ((virgationref09_alternatives.f k (rd_L4 x47 x49) (rd x180000 x49) x3).bind fun t184 => (if t184 = true then (virgationref09_Is.l1 k x3 x35 x36 x37 x47 x48 (wrap64 (x49 + 1)) x180000 x180001 x180002) else (some false))) else (none)) else (none)) else (none)) else (virgationref09_Is.l0 k x3 x35 x36 (wrap64 (x37 + 1)) x180000 x180001 x180002)
end
def virgationref09_Is.f (k : Nat) (l0_0 : List Int) (a0_1 : Int) (l0_2 : List (List (List (List (S78))))) : Option (Bool) := (virgationref06_Ranks.f k l0_0).bind fun t180 => (if t180 = true then (if (l0_2.length : Int) < 1 then (virgationref09_Is.j0 k (l0_2.length : Int) true l0_0 a0_1 l0_2) else (if (l0_2.length : Int) > 6 then (virgationref09_Is.j0 k (l0_2.length : Int) true l0_0 a0_1 l0_2) else (if a0_1 < 0 then (virgationref09_Is.j0 k (l0_2.length : Int) true l0_0 a0_1 l0_2) else (virgationref09_Is.j0 k (l0_2.length : Int) (decide (a0_1 ≥ (l0_2.length : Int))) l0_0 a0_1 l0_2)))) else (virgationref09_Is.j0 k (l0_2.length : Int) true l0_0 a0_1 l0_2))
set_option maxHeartbeats 8000000 in
set_option maxRecDepth 100000 in
theorem virgationref09_Is.calls (k : Nat) (A0_0 : Option Addr) (c0_0 : Nat) (l0_0 : List Int) (a0_1 : Int) (A0_2 : Option Addr) (c0_2 : Nat) (l0_2 : List (List (List (List (S78))))) (r : Bool) (w : World) (hr0_0 : Kd.C (Kd.int .i64) w A0_0 l0_0.length l0_0) (hc0_0 : l0_0.length ≤ c0_0) (hr0_2 : Kd.C (Kd.slice 79 (Kd.slice 76 (Kd.slice 78 k78))) w A0_2 l0_2.length l0_2) (hc0_2 : l0_2.length ≤ c0_2) (h : virgationref09_Is.f k l0_0 a0_1 l0_2 = some r) :
    Calls Try.prog 59 #[.agg #[.slice A0_0 l0_0.length c0_0, .int .i64 a0_1, .slice A0_2 l0_2.length c0_2]] w fun e w' => e = .returned (.bool r) ∧ Below w.heap.size w w' := by
  have hu44 := Try.underlying44
  have HR0_0 := Aside0.mk hr0_0
  have HC0_0 := Aside0.mk hc0_0
  clear hr0_0 hc0_0
  have HR0_2 := Aside0.mk hr0_2
  have HC0_2 := Aside0.mk hc0_2
  clear hr0_2 hc0_2
  have HB := Aside0.mk (Below.refl w.heap.size w)
  have H : ((virgationref06_Ranks.f k l0_0).bind fun t180 => (if t180 = true then (if (l0_2.length : Int) < 1 then (virgationref09_Is.j0 k (l0_2.length : Int) true l0_0 a0_1 l0_2) else (if (l0_2.length : Int) > 6 then (virgationref09_Is.j0 k (l0_2.length : Int) true l0_0 a0_1 l0_2) else (if a0_1 < 0 then (virgationref09_Is.j0 k (l0_2.length : Int) true l0_0 a0_1 l0_2) else (virgationref09_Is.j0 k (l0_2.length : Int) (decide (a0_1 ≥ (l0_2.length : Int))) l0_0 a0_1 l0_2)))) else (virgationref09_Is.j0 k (l0_2.length : Int) true l0_0 a0_1 l0_2))) = some r := h
  clear h
  have HC2 := Aside0.mk H
  clear H
  go_enter Try.func59, Try.ntmps59
  go_upto_region 2 with (first | ((with_reducible refine gate_dst (N := 1) rfl ?_); refine box_event ?hg (N := 1) ?hd (cs := #[.slice A0_0 l0_0.length c0_0, .int .i64 a0_1, .slice A0_2 l0_2.length c0_2]) (t := 44) ?hr ?_; (case hd => rfl); (case hg => rfl); (case hr => first | (go_simp; done) | (go_simp; rfl)); intro gb179 hg w3 hbox hb; have n0_ := Aside0.mk (below_step (by repeat (first | (with_reducible first | exact HB.out | apply below_alloc | apply pw_below_drewN | apply below_drew1) | exact HB.out)) hb); have n1_ := Aside0.mk (hbox); have n2_ := Aside0.mk ((by rw [hg]; exact (below_size (by repeat (first | (with_reducible first | exact HB.out | apply below_alloc | apply pw_below_drewN | apply below_drew1) | exact HB.out))) : w.heap.size ≤ gb179)); have n3_ := Aside0.mk ((by rw [hg]; exact (below_size (by repeat (first | (with_reducible first | exact HB.out | apply below_alloc | apply pw_below_drewN | apply below_drew1) | exact HB.out))) : w.heap.size ≤ gb179)); clear HB; have HB := n0_; have BK179 := n1_; have GW179 := n2_; have GE179 := n3_; clear n0_ n1_ n2_ n3_; clear hb hbox hg; have hcz4_0 : w3.cell? ⟨gb179, 0, none⟩ = some (.slice A0_0 l0_0.length c0_0) := (blk_cell BK179.out 0).trans rfl; have hcz4_1 : w3.cell? ⟨gb179, 1, none⟩ = some (.int .i64 a0_1) := (blk_cell BK179.out 1).trans rfl; have hcz4_2 : w3.cell? ⟨gb179, 2, none⟩ = some (.slice A0_2 l0_2.length c0_2) := (blk_cell BK179.out 2).trans rfl; have hfz4_0 := blk_frozen BK179.out 0; have hfz4_1 := blk_frozen BK179.out 1; have hfz4_2 := blk_frozen BK179.out 2))
  (try simp only [Act.put, List.setIfInBounds_toArray, List.set_cons_zero, List.set_cons_succ])
  go_cut [33] (fun v33 wc => ∃ (kq : Nat) (x33_1 : Bool), v33 = .bool x33_1 ∧ Aside0 (virgationref09_Is.j0 kq (l0_2.length : Int) x33_1 l0_0 a0_1 l0_2 = some r) ∧ Aside0 (kq ≤ k) ∧ Aside0 (wc.heap[gb179]? = some (.cells #[(.slice A0_0 l0_0.length c0_0), .int .i64 a0_1, (.slice A0_2 l0_2.length c0_2)] 44 (0, 0))) ∧ Aside0 (Below w.heap.size w wc))
  case first =>
    have H := HC2.out
    clear HC2
    replace H := Option.bind_eq_some_iff.mp H
    obtain ⟨t180, A50, H⟩ := H
    replace H : (if t180 = true then (if (l0_2.length : Int) < 1 then (virgationref09_Is.j0 k (l0_2.length : Int) true l0_0 a0_1 l0_2) else (if (l0_2.length : Int) > 6 then (virgationref09_Is.j0 k (l0_2.length : Int) true l0_0 a0_1 l0_2) else (if a0_1 < 0 then (virgationref09_Is.j0 k (l0_2.length : Int) true l0_0 a0_1 l0_2) else (virgationref09_Is.j0 k (l0_2.length : Int) (decide (a0_1 ≥ (l0_2.length : Int))) l0_0 a0_1 l0_2)))) else (virgationref09_Is.j0 k (l0_2.length : Int) true l0_0 a0_1 l0_2)) = some r := H
    have A5 := Aside0.mk A50
    clear A50
    by_cases c6 : t180 = true
    · subst c6
      have H1 : (if (l0_2.length : Int) < 1 then (virgationref09_Is.j0 k (l0_2.length : Int) true l0_0 a0_1 l0_2) else (if (l0_2.length : Int) > 6 then (virgationref09_Is.j0 k (l0_2.length : Int) true l0_0 a0_1 l0_2) else (if a0_1 < 0 then (virgationref09_Is.j0 k (l0_2.length : Int) true l0_0 a0_1 l0_2) else (virgationref09_Is.j0 k (l0_2.length : Int) (decide (a0_1 ≥ (l0_2.length : Int))) l0_0 a0_1 l0_2)))) = some r := by rw [if_pos rfl] at H; exact H
      clear H
      have H := H1
      clear H1
      by_cases c7 : (l0_2.length : Int) < 1
      · rw [if_pos c7] at H
        have c7b0 : decide ((l0_2.length : Int) < 1) = true := decide_eq_true c7
        have c7b1 : decide (l0_2.length < 1) = true := decide_eq_true (by omega)
        clear c7
        (first | rw [c7b0] | (simp only [i64_w, i32_w]; rw [c7b0]) | skip)
        have H' := Aside0.mk H
        clear H
        have hcz8_0 : w3.cell? ⟨gb179, 0, none⟩ = some (.slice A0_0 l0_0.length c0_0) := (blk_cell BK179.out 0).trans rfl
        have hcz8_1 : w3.cell? ⟨gb179, 1, none⟩ = some (.int .i64 a0_1) := (blk_cell BK179.out 1).trans rfl
        have hcz8_2 : w3.cell? ⟨gb179, 2, none⟩ = some (.slice A0_2 l0_2.length c0_2) := (blk_cell BK179.out 2).trans rfl
        have hfz8_0 := blk_frozen BK179.out 0
        have hfz8_1 := blk_frozen BK179.out 1
        have hfz8_2 := blk_frozen BK179.out 2
        go_wp2_with (first | ((with_reducible refine gate_callee (f := 58) rfl ?_); refine goesL_ (some 13) rfl rfl Try.func58 (by kernel_rfl) rfl #[.slice A0_0 l0_0.length c0_0] rfl (by (try simp only [List.map_toArray, List.map_cons, List.map_nil]); first | done | rfl | (simp only [List.length_drop, List.length_take]; rfl)) ?_; (with_reducible refine (virgationref06_Ranks.calls k _ _ l0_0 true _ ?side1 ?side2 A5.out).mono ?_); (case side1 => repeat (first | exact (Kd.C_below HR0_0.out HB.out) | (with_reducible refine Kd.C_alloc ?_ _) | (with_reducible refine Kd.C_drewN ?_ _) | (with_reducible refine Kd.C_drew ?_))); (case side2 => exact HC0_0.out); rintro e w' ⟨rfl, ⟨nd, rfl⟩⟩; refine ⟨_, rfl, ?_⟩))
        go_meet
        case rel => exact ⟨_, (true), (by first | rfl | (simp; done) | (simp [*]; done)), H', ⟨by first | omega | exact Nat.le_refl _⟩, ⟨by (with_reducible repeat (first | refine blk_drewN ?_ _ | refine blk_drew ?_ | refine blk_alloc ?_ _)); exact BK179.out⟩, ⟨by repeat (first | (with_reducible first | exact HB.out | apply below_alloc | apply pw_below_drewN | apply below_drew1 | refine below_set ?_ GE179.out) | exact HB.out)⟩⟩
      · rw [if_neg c7] at H
        have c7b0 : decide ((l0_2.length : Int) < 1) = false := decide_eq_false c7
        have c7b1 : decide (l0_2.length < 1) = false := decide_eq_false (by omega)
        clear c7
        (first | rw [c7b0] | (simp only [i64_w, i32_w]; rw [c7b0]) | skip)
        by_cases c9 : (l0_2.length : Int) > 6
        · rw [if_pos c9] at H
          have c9b0 : decide (6 < (l0_2.length : Int)) = true := decide_eq_true c9
          have c9b1 : decide (6 < l0_2.length) = true := decide_eq_true (by omega)
          clear c9
          have H' := Aside0.mk H
          clear H
          have hcz10_0 : w3.cell? ⟨gb179, 0, none⟩ = some (.slice A0_0 l0_0.length c0_0) := (blk_cell BK179.out 0).trans rfl
          have hcz10_1 : w3.cell? ⟨gb179, 1, none⟩ = some (.int .i64 a0_1) := (blk_cell BK179.out 1).trans rfl
          have hcz10_2 : w3.cell? ⟨gb179, 2, none⟩ = some (.slice A0_2 l0_2.length c0_2) := (blk_cell BK179.out 2).trans rfl
          have hfz10_0 := blk_frozen BK179.out 0
          have hfz10_1 := blk_frozen BK179.out 1
          have hfz10_2 := blk_frozen BK179.out 2
          go_wp2_with (first | ((with_reducible refine gate_callee (f := 58) rfl ?_); refine goesL_ (some 13) rfl rfl Try.func58 (by kernel_rfl) rfl #[.slice A0_0 l0_0.length c0_0] rfl (by (try simp only [List.map_toArray, List.map_cons, List.map_nil]); first | done | rfl | (simp only [List.length_drop, List.length_take]; rfl)) ?_; (with_reducible refine (virgationref06_Ranks.calls k _ _ l0_0 true _ ?side1 ?side2 A5.out).mono ?_); (case side1 => repeat (first | exact (Kd.C_below HR0_0.out HB.out) | (with_reducible refine Kd.C_alloc ?_ _) | (with_reducible refine Kd.C_drewN ?_ _) | (with_reducible refine Kd.C_drew ?_))); (case side2 => exact HC0_0.out); rintro e w' ⟨rfl, ⟨nd, rfl⟩⟩; refine ⟨_, rfl, ?_⟩))
          go_meet
          case rel => exact ⟨_, (true), (by first | rfl | (simp; done) | (simp [*]; done)), H', ⟨by first | omega | exact Nat.le_refl _⟩, ⟨by (with_reducible repeat (first | refine blk_drewN ?_ _ | refine blk_drew ?_ | refine blk_alloc ?_ _)); exact BK179.out⟩, ⟨by repeat (first | (with_reducible first | exact HB.out | apply below_alloc | apply pw_below_drewN | apply below_drew1 | refine below_set ?_ GE179.out) | exact HB.out)⟩⟩
        · rw [if_neg c9] at H
          have c9b0 : decide (6 < (l0_2.length : Int)) = false := decide_eq_false c9
          have c9b1 : decide (6 < l0_2.length) = false := decide_eq_false (by omega)
          clear c9
          by_cases c11 : a0_1 < 0
          · rw [if_pos c11] at H
            have c11b0 : decide (a0_1 < 0) = true := decide_eq_true c11
            clear c11
            have H' := Aside0.mk H
            clear H
            have hcz12_0 : w3.cell? ⟨gb179, 0, none⟩ = some (.slice A0_0 l0_0.length c0_0) := (blk_cell BK179.out 0).trans rfl
            have hcz12_1 : w3.cell? ⟨gb179, 1, none⟩ = some (.int .i64 a0_1) := (blk_cell BK179.out 1).trans rfl
            have hcz12_2 : w3.cell? ⟨gb179, 2, none⟩ = some (.slice A0_2 l0_2.length c0_2) := (blk_cell BK179.out 2).trans rfl
            have hfz12_0 := blk_frozen BK179.out 0
            have hfz12_1 := blk_frozen BK179.out 1
            have hfz12_2 := blk_frozen BK179.out 2
            go_wp2_with (first | ((with_reducible refine gate_callee (f := 58) rfl ?_); refine goesL_ (some 13) rfl rfl Try.func58 (by kernel_rfl) rfl #[.slice A0_0 l0_0.length c0_0] rfl (by (try simp only [List.map_toArray, List.map_cons, List.map_nil]); first | done | rfl | (simp only [List.length_drop, List.length_take]; rfl)) ?_; (with_reducible refine (virgationref06_Ranks.calls k _ _ l0_0 true _ ?side1 ?side2 A5.out).mono ?_); (case side1 => repeat (first | exact (Kd.C_below HR0_0.out HB.out) | (with_reducible refine Kd.C_alloc ?_ _) | (with_reducible refine Kd.C_drewN ?_ _) | (with_reducible refine Kd.C_drew ?_))); (case side2 => exact HC0_0.out); rintro e w' ⟨rfl, ⟨nd, rfl⟩⟩; refine ⟨_, rfl, ?_⟩))
            go_meet
            case rel => exact ⟨_, (true), (by first | rfl | (simp; done) | (simp [*]; done)), H', ⟨by first | omega | exact Nat.le_refl _⟩, ⟨by (with_reducible repeat (first | refine blk_drewN ?_ _ | refine blk_drew ?_ | refine blk_alloc ?_ _)); exact BK179.out⟩, ⟨by repeat (first | (with_reducible first | exact HB.out | apply below_alloc | apply pw_below_drewN | apply below_drew1 | refine below_set ?_ GE179.out) | exact HB.out)⟩⟩
          · rw [if_neg c11] at H
            have c11b0 : decide (a0_1 < 0) = false := decide_eq_false c11
            clear c11
            have H' := Aside0.mk H
            clear H
            have hcz13_0 : w3.cell? ⟨gb179, 0, none⟩ = some (.slice A0_0 l0_0.length c0_0) := (blk_cell BK179.out 0).trans rfl
            have hcz13_1 : w3.cell? ⟨gb179, 1, none⟩ = some (.int .i64 a0_1) := (blk_cell BK179.out 1).trans rfl
            have hcz13_2 : w3.cell? ⟨gb179, 2, none⟩ = some (.slice A0_2 l0_2.length c0_2) := (blk_cell BK179.out 2).trans rfl
            have hfz13_0 := blk_frozen BK179.out 0
            have hfz13_1 := blk_frozen BK179.out 1
            have hfz13_2 := blk_frozen BK179.out 2
            go_wp2_with (first | ((with_reducible refine gate_callee (f := 58) rfl ?_); refine goesL_ (some 13) rfl rfl Try.func58 (by kernel_rfl) rfl #[.slice A0_0 l0_0.length c0_0] rfl (by (try simp only [List.map_toArray, List.map_cons, List.map_nil]); first | done | rfl | (simp only [List.length_drop, List.length_take]; rfl)) ?_; (with_reducible refine (virgationref06_Ranks.calls k _ _ l0_0 true _ ?side1 ?side2 A5.out).mono ?_); (case side1 => repeat (first | exact (Kd.C_below HR0_0.out HB.out) | (with_reducible refine Kd.C_alloc ?_ _) | (with_reducible refine Kd.C_drewN ?_ _) | (with_reducible refine Kd.C_drew ?_))); (case side2 => exact HC0_0.out); rintro e w' ⟨rfl, ⟨nd, rfl⟩⟩; refine ⟨_, rfl, ?_⟩))
            go_meet
            case rel => exact ⟨_, (decide (a0_1 ≥ (l0_2.length : Int))), (by first | rfl | (simp; done) | (simp [*]; done)), H', ⟨by first | omega | exact Nat.le_refl _⟩, ⟨by (with_reducible repeat (first | refine blk_drewN ?_ _ | refine blk_drew ?_ | refine blk_alloc ?_ _)); exact BK179.out⟩, ⟨by repeat (first | (with_reducible first | exact HB.out | apply below_alloc | apply pw_below_drewN | apply below_drew1 | refine below_set ?_ GE179.out) | exact HB.out)⟩⟩
    · replace c6 := Bool.eq_false_iff.mpr c6
      subst c6
      have H1 : (virgationref09_Is.j0 k (l0_2.length : Int) true l0_0 a0_1 l0_2) = some r := by rw [if_neg (show ¬ (false = true) by decide)] at H; exact H
      clear H
      have H := H1
      clear H1
      have H' := Aside0.mk H
      clear H
      have hcz14_0 : w3.cell? ⟨gb179, 0, none⟩ = some (.slice A0_0 l0_0.length c0_0) := (blk_cell BK179.out 0).trans rfl
      have hcz14_1 : w3.cell? ⟨gb179, 1, none⟩ = some (.int .i64 a0_1) := (blk_cell BK179.out 1).trans rfl
      have hcz14_2 : w3.cell? ⟨gb179, 2, none⟩ = some (.slice A0_2 l0_2.length c0_2) := (blk_cell BK179.out 2).trans rfl
      have hfz14_0 := blk_frozen BK179.out 0
      have hfz14_1 := blk_frozen BK179.out 1
      have hfz14_2 := blk_frozen BK179.out 2
      go_wp2_with (first | ((with_reducible refine gate_callee (f := 58) rfl ?_); refine goesL_ (some 13) rfl rfl Try.func58 (by kernel_rfl) rfl #[.slice A0_0 l0_0.length c0_0] rfl (by (try simp only [List.map_toArray, List.map_cons, List.map_nil]); first | done | rfl | (simp only [List.length_drop, List.length_take]; rfl)) ?_; (with_reducible refine (virgationref06_Ranks.calls k _ _ l0_0 false _ ?side1 ?side2 A5.out).mono ?_); (case side1 => repeat (first | exact (Kd.C_below HR0_0.out HB.out) | (with_reducible refine Kd.C_alloc ?_ _) | (with_reducible refine Kd.C_drewN ?_ _) | (with_reducible refine Kd.C_drew ?_))); (case side2 => exact HC0_0.out); rintro e w' ⟨rfl, ⟨nd, rfl⟩⟩; refine ⟨_, rfl, ?_⟩))
      go_meet
      case rel => exact ⟨_, (true), (by first | rfl | (simp; done) | (simp [*]; done)), H', ⟨by first | omega | exact Nat.le_refl _⟩, ⟨by (with_reducible repeat (first | refine blk_drewN ?_ _ | refine blk_drew ?_ | refine blk_alloc ?_ _)); exact BK179.out⟩, ⟨by repeat (first | (with_reducible first | exact HB.out | apply below_alloc | apply pw_below_drewN | apply below_drew1 | refine below_set ?_ GE179.out) | exact HB.out)⟩⟩
  case rest =>
    clear HC2
    try clear c1
    try clear p2
    try clear c5
    try clear c6
    try clear c7
    try clear c7b0
    try clear c7b1
    try clear c9
    try clear c9b0
    try clear c9b1
    try clear c11
    try clear c11b0
    try clear hcz10_0
    try clear hcz10_1
    try clear hcz10_2
    try clear hcz12_0
    try clear hcz12_1
    try clear hcz12_2
    try clear hcz13_0
    try clear hcz13_1
    try clear hcz13_2
    try clear hcz14_0
    try clear hcz14_1
    try clear hcz14_2
    try clear hcz4_0
    try clear hcz4_1
    try clear hcz4_2
    try clear hcz8_0
    try clear hcz8_1
    try clear hcz8_2
    try clear hfz10_0
    try clear hfz10_1
    try clear hfz10_2
    try clear hfz12_0
    try clear hfz12_1
    try clear hfz12_2
    try clear hfz13_0
    try clear hfz13_1
    try clear hfz13_2
    try clear hfz14_0
    try clear hfz14_1
    try clear hfz14_2
    try clear hfz4_0
    try clear hfz4_1
    try clear hfz4_2
    try clear hfz8_0
    try clear hfz8_1
    try clear hfz8_2
    obtain ⟨kq, x33_1, rfl, HA, HJ1, BK179, HB⟩ := hcut
    cases kq with
    | zero => exact absurd HA.out (by simp [virgationref09_Is.j0])
    | succ kj1 =>
      have H := HA.out
      clear HA
      simp only [virgationref09_Is.j0] at H
      by_cases c15 : x33_1 = true
      · subst c15
        have H1 : (some false) = some r := by rw [if_pos rfl] at H; exact H
        clear H
        have H := H1
        clear H1
        obtain rfl := Option.some.inj H
        go_wp2
        go_ret
        exact ⟨by first | rfl | (simp [errW_none, errW_some] <;> rfl) | (simp [*, errW_none, errW_some] <;> rfl), by repeat (first | (with_reducible first | exact HB.out | apply below_alloc | apply pw_below_drewN | apply below_drew1 | refine below_set ?_ GE179.out) | exact HB.out)⟩
      · replace c15 := Bool.eq_false_iff.mpr c15
        subst c15
        have H1 : (virgationref09_Is.l0 kj1 (l0_2.length : Int) l0_2 (l0_2.length : Int) 0 l0_0 a0_1 l0_2) = some r := by rw [if_neg (show ¬ (false = true) by decide)] at H; exact H
        clear H
        have H := H1
        clear H1
        have H' := Aside0.mk H
        clear H
        have hcz16_0 : wc.cell? ⟨gb179, 0, none⟩ = some (.slice A0_0 l0_0.length c0_0) := (blk_cell BK179.out 0).trans rfl
        have hcz16_1 : wc.cell? ⟨gb179, 1, none⟩ = some (.int .i64 a0_1) := (blk_cell BK179.out 1).trans rfl
        have hcz16_2 : wc.cell? ⟨gb179, 2, none⟩ = some (.slice A0_2 l0_2.length c0_2) := (blk_cell BK179.out 2).trans rfl
        have hfz16_0 := blk_frozen BK179.out 0
        have hfz16_1 := blk_frozen BK179.out 1
        have hfz16_2 := blk_frozen BK179.out 2
        go_wp2
        go_loopg [37] kj1 (fun kq v37 w' => ∃ (x37_2 : Int), v37 = .int .i64 x37_2 ∧ Aside0 (virgationref09_Is.l0 kq (l0_2.length : Int) l0_2 (l0_2.length : Int) x37_2 l0_0 a0_1 l0_2 = some r) ∧ Aside0 (kq ≤ kj1) ∧ Aside0 (w'.heap[gb179]? = some (.cells #[(.slice A0_0 l0_0.length c0_0), .int .i64 a0_1, (.slice A0_2 l0_2.length c0_2)] 44 (0, 0))) ∧ Aside0 (Below w.heap.size w w'))
        case atStart => exact ⟨(0), (by first | rfl | (simp; done) | (simp [*]; done)), H', ⟨Nat.le_refl _⟩, ⟨by (with_reducible repeat (first | refine blk_drewN ?_ _ | refine blk_drew ?_ | refine blk_alloc ?_ _)); exact BK179.out⟩, ⟨by repeat (first | (with_reducible first | exact HB.out | apply below_alloc | apply pw_below_drewN | apply below_drew1 | refine below_set ?_ GE179.out) | exact HB.out)⟩⟩
        case round =>
          clear H'
          try clear c1
          try clear p2
          try clear c5
          try clear c6
          try clear c7
          try clear c7b0
          try clear c7b1
          try clear c9
          try clear c9b0
          try clear c9b1
          try clear c11
          try clear c11b0
          try clear c15
          try clear hcz10_0
          try clear hcz10_1
          try clear hcz10_2
          try clear hcz12_0
          try clear hcz12_1
          try clear hcz12_2
          try clear hcz13_0
          try clear hcz13_1
          try clear hcz13_2
          try clear hcz14_0
          try clear hcz14_1
          try clear hcz14_2
          try clear hcz16_0
          try clear hcz16_1
          try clear hcz16_2
          try clear hcz4_0
          try clear hcz4_1
          try clear hcz4_2
          try clear hcz8_0
          try clear hcz8_1
          try clear hcz8_2
          try clear hfz10_0
          try clear hfz10_1
          try clear hfz10_2
          try clear hfz12_0
          try clear hfz12_1
          try clear hfz12_2
          try clear hfz13_0
          try clear hfz13_1
          try clear hfz13_2
          try clear hfz14_0
          try clear hfz14_1
          try clear hfz14_2
          try clear hfz16_0
          try clear hfz16_1
          try clear hfz16_2
          try clear hfz4_0
          try clear hfz4_1
          try clear hfz4_2
          try clear hfz8_0
          try clear hfz8_1
          try clear hfz8_2
          try clear p2
          obtain ⟨x37_2, rfl, HA, HK2, BK179, HB⟩ := hrel
          cases gk with
          | zero => exact absurd HA.out (by simp [virgationref09_Is.l0])
          | succ k2 =>
            have H := HA.out
            clear HA
            simp only [virgationref09_Is.l0] at H
            by_cases c17 : x37_2 < (l0_2.length : Int)
            · rw [if_pos c17] at H
              have c17b0 : decide (x37_2 < (l0_2.length : Int)) = true := decide_eq_true c17
              clear c17
              by_cases c18 : 0 ≤ x37_2
              · rw [if_pos c18] at H
                have c18b0 : decide (0 ≤ x37_2) = true := decide_eq_true c18
                clear c18
                by_cases c19 : x37_2 < (l0_2.length : Int)
                · rw [if_pos c19] at H
                  have c19b0 : decide (x37_2 < (l0_2.length : Int)) = true := decide_eq_true c19
                  clear c19
                  by_cases c20 : ((rd_L5 l0_2 x37_2).length : Int) = (l0_0.length : Int)
                  · rw [if_pos c20] at H
                    have c20b0 : (((rd_L5 l0_2 x37_2).length : Int) == (l0_0.length : Int)) = true := beq_iff_eq.mpr c20
                    have c20b1 : (((rd_L5 l0_2 x37_2).length : Int) != (l0_0.length : Int)) = false := bne_eq_false_iff_eq.mpr c20
                    have c20b2 : ((rd_L5 l0_2 x37_2).length == l0_0.length) = true := by first | simpa using c20 | (simp at c20 ⊢; omega)
                    clear c20
                    have H' := Aside0.mk H
                    clear H
                    have p181 : 0 ≤ (x37_2 : Int) := of_decide_eq_true (by first | (with_reducible assumption) | assumption)
                    have q181 : x37_2 < (l0_2.length : Int) := of_decide_eq_true (by first | (with_reducible assumption) | assumption)
                    obtain ⟨ad181, A181_0, c181_0, e181, hx181_0, hl181_0, hi181_0⟩ := at_L5 HR0_2.out x37_2 p181 q181
                    cases e181
                    replace hx181_0 := (HB.out.cell (World.block_lt_of_cell? w _ hx181_0)).trans hx181_0
                    have HR181_0 := Aside0.mk hi181_0
                    have HC181_0 := Aside0.mk hl181_0
                    clear hi181_0 hl181_0
                    replace p181 := eq_true p181
                    replace q181 := eq_true q181
                    have hcz21_0 : wr.cell? ⟨gb179, 0, none⟩ = some (.slice A0_0 l0_0.length c0_0) := (blk_cell BK179.out 0).trans rfl
                    have hcz21_1 : wr.cell? ⟨gb179, 1, none⟩ = some (.int .i64 a0_1) := (blk_cell BK179.out 1).trans rfl
                    have hcz21_2 : wr.cell? ⟨gb179, 2, none⟩ = some (.slice (some ad181) l0_2.length c0_2) := (blk_cell BK179.out 2).trans rfl
                    have hfz21_0 := blk_frozen BK179.out 0
                    have hfz21_1 := blk_frozen BK179.out 1
                    have hfz21_2 := blk_frozen BK179.out 2
                    go_wp2
                    go_loopg [49] k2 (fun kq v49 w' => ∃ (x49_3 : Int), v49 = .int .i64 x49_3 ∧ Aside0 (virgationref09_Is.l1 kq (l0_2.length : Int) l0_2 (l0_2.length : Int) x37_2 (rd_L5 l0_2 x37_2) ((rd_L5 l0_2 x37_2).length : Int) x49_3 l0_0 a0_1 l0_2 = some r) ∧ Aside0 (kq ≤ k2) ∧ Aside0 (w'.heap[gb179]? = some (.cells #[(.slice A0_0 l0_0.length c0_0), .int .i64 a0_1, (.slice (some ad181) l0_2.length c0_2)] 44 (0, 0))) ∧ Aside0 (Below w.heap.size w w'))
                    case atStart => exact ⟨(0), (by first | rfl | (simp; done) | (simp [*]; done)), H', ⟨Nat.le_refl _⟩, ⟨by (with_reducible repeat (first | refine blk_drewN ?_ _ | refine blk_drew ?_ | refine blk_alloc ?_ _)); exact BK179.out⟩, ⟨by repeat (first | (with_reducible first | exact HB.out | apply below_alloc | apply pw_below_drewN | apply below_drew1 | refine below_set ?_ GE179.out) | exact HB.out)⟩⟩
                    case round =>
                      clear H'
                      try clear c1
                      try clear p1
                      try clear q1
                      try clear hx1
                      try clear c2
                      try clear p2
                      try clear c5
                      try clear c6
                      try clear c7
                      try clear c7b0
                      try clear c7b1
                      try clear c9
                      try clear c9b0
                      try clear c9b1
                      try clear c11
                      try clear c11b0
                      try clear c15
                      try clear c17
                      try clear c17b0
                      try clear c18
                      try clear c18b0
                      try clear p18
                      try clear q18
                      try clear hx18
                      try clear c19
                      try clear c19b0
                      try clear c20
                      try clear c20b0
                      try clear c20b1
                      try clear c20b2
                      try clear hcz10_0
                      try clear hcz10_1
                      try clear hcz10_2
                      try clear hcz12_0
                      try clear hcz12_1
                      try clear hcz12_2
                      try clear hcz13_0
                      try clear hcz13_1
                      try clear hcz13_2
                      try clear hcz14_0
                      try clear hcz14_1
                      try clear hcz14_2
                      try clear hcz16_0
                      try clear hcz16_1
                      try clear hcz16_2
                      try clear hcz21_0
                      try clear hcz21_1
                      try clear hcz21_2
                      try clear hcz4_0
                      try clear hcz4_1
                      try clear hcz4_2
                      try clear hcz8_0
                      try clear hcz8_1
                      try clear hcz8_2
                      try clear hfz10_0
                      try clear hfz10_1
                      try clear hfz10_2
                      try clear hfz12_0
                      try clear hfz12_1
                      try clear hfz12_2
                      try clear hfz13_0
                      try clear hfz13_1
                      try clear hfz13_2
                      try clear hfz14_0
                      try clear hfz14_1
                      try clear hfz14_2
                      try clear hfz16_0
                      try clear hfz16_1
                      try clear hfz16_2
                      try clear hfz21_0
                      try clear hfz21_1
                      try clear hfz21_2
                      try clear hfz4_0
                      try clear hfz4_1
                      try clear hfz4_2
                      try clear hfz8_0
                      try clear hfz8_1
                      try clear hfz8_2
                      try clear hx181_0
                      try clear p181
                      try clear p2
                      try clear q181
                      obtain ⟨x49_3, rfl, HA, HK3, BK179, HB⟩ := hrel
                      cases gk with
                      | zero => exact absurd HA.out (by simp [virgationref09_Is.l1])
                      | succ k3 =>
                        have H := HA.out
                        clear HA
                        simp only [virgationref09_Is.l1] at H
                        by_cases c22 : x49_3 < ((rd_L5 l0_2 x37_2).length : Int)
                        · rw [if_pos c22] at H
                          have c22b0 : decide (x49_3 < ((rd_L5 l0_2 x37_2).length : Int)) = true := decide_eq_true c22
                          clear c22
                          by_cases c23 : 0 ≤ x49_3
                          · rw [if_pos c23] at H
                            have c23b0 : decide (0 ≤ x49_3) = true := decide_eq_true c23
                            clear c23
                            by_cases c24 : x49_3 < ((rd_L5 l0_2 x37_2).length : Int)
                            · rw [if_pos c24] at H
                              have c24b0 : decide (x49_3 < ((rd_L5 l0_2 x37_2).length : Int)) = true := decide_eq_true c24
                              clear c24
                              by_cases c25 : x49_3 < (l0_0.length : Int)
                              · rw [if_pos c25] at H
                                have c25b0 : decide (x49_3 < (l0_0.length : Int)) = true := decide_eq_true c25
                                clear c25
                                replace H := Option.bind_eq_some_iff.mp H
                                obtain ⟨t184, A260, H⟩ := H
                                replace H : (if t184 = true then (virgationref09_Is.l1 k3 (l0_2.length : Int) l0_2 (l0_2.length : Int) x37_2 (rd_L5 l0_2 x37_2) ((rd_L5 l0_2 x37_2).length : Int) (wrap64 (x49_3 + 1)) l0_0 a0_1 l0_2) else (some false)) = some r := H
                                have A26 := Aside0.mk A260
                                clear A260
                                by_cases c27 : t184 = true
                                · subst c27
                                  have H1 : (virgationref09_Is.l1 k3 (l0_2.length : Int) l0_2 (l0_2.length : Int) x37_2 (rd_L5 l0_2 x37_2) ((rd_L5 l0_2 x37_2).length : Int) (wrap64 (x49_3 + 1)) l0_0 a0_1 l0_2) = some r := by rw [if_pos rfl] at H; exact H
                                  clear H
                                  have H := H1
                                  clear H1
                                  have H' := Aside0.mk H
                                  clear H
                                  have p182 : 0 ≤ (x49_3 : Int) := of_decide_eq_true (by first | (with_reducible assumption) | assumption)
                                  have q182 : x49_3 < ((rd_L5 l0_2 x37_2).length : Int) := of_decide_eq_true (by first | (with_reducible assumption) | assumption)
                                  obtain ⟨ad182, A182_0, c182_0, e182, hx182_0, hl182_0, hi182_0⟩ := at_L4 HR181_0.out x49_3 p182 q182
                                  cases e182
                                  replace hx182_0 := (HB.out.cell (World.block_lt_of_cell? w _ hx182_0)).trans hx182_0
                                  have HR182_0 := Aside0.mk hi182_0
                                  have HC182_0 := Aside0.mk hl182_0
                                  clear hi182_0 hl182_0
                                  replace p182 := eq_true p182
                                  replace q182 := eq_true q182
                                  have hcz28_0 : wr.cell? ⟨gb179, 0, none⟩ = some (.slice A0_0 l0_0.length c0_0) := (blk_cell BK179.out 0).trans rfl
                                  have hcz28_1 : wr.cell? ⟨gb179, 1, none⟩ = some (.int .i64 a0_1) := (blk_cell BK179.out 1).trans rfl
                                  have hcz28_2 : wr.cell? ⟨gb179, 2, none⟩ = some (.slice (some ad181) l0_2.length c0_2) := (blk_cell BK179.out 2).trans rfl
                                  have hfz28_0 := blk_frozen BK179.out 0
                                  have hfz28_1 := blk_frozen BK179.out 1
                                  have hfz28_2 := blk_frozen BK179.out 2
                                  have p183 : 0 ≤ (x49_3 : Int) := of_decide_eq_true (by first | (with_reducible assumption) | assumption)
                                  have q183 : x49_3 < (l0_0.length : Int) := of_decide_eq_true (by first | (with_reducible assumption) | assumption)
                                  obtain ⟨ad183, e183, hx183_0⟩ := Kd.at_int HR0_0.out x49_3 p183 q183
                                  cases e183
                                  replace hx183_0 := (HB.out.cell (World.block_lt_of_cell? w _ hx183_0)).trans hx183_0
                                  replace p183 := eq_true p183
                                  replace q183 := eq_true q183
                                  go_wp2_with (first | ((with_reducible refine gate_callee (f := 69) rfl ?_); refine goesL_ (some 61) rfl rfl Try.func69 (by kernel_rfl) rfl #[.slice A182_0 (rd_L4 (rd_L5 l0_2 x37_2) x49_3).length c182_0, .int .i64 (rd l0_0 x49_3), .int .i64 (l0_2.length : Int)] rfl (by (try simp only [List.map_toArray, List.map_cons, List.map_nil]); first | done | rfl | (simp only [List.length_drop, List.length_take]; rfl)) ?_; (with_reducible refine (virgationref09_alternatives.calls k3 _ _ (rd_L4 (rd_L5 l0_2 x37_2) x49_3) (rd l0_0 x49_3) (l0_2.length : Int) true _ ?side1 ?side2 A26.out).mono ?_); (case side1 => repeat (first | exact (Kd.C_below HR182_0.out HB.out) | (with_reducible refine Kd.C_alloc ?_ _) | (with_reducible refine Kd.C_drewN ?_ _) | (with_reducible refine Kd.C_drew ?_))); (case side2 => exact HC182_0.out); rintro e w29 ⟨rfl, hb⟩; refine ⟨_, rfl, ?_⟩; have n0_ := Aside0.mk (blk_below (g := gb179) (o := .cells #[.slice (some ad183) l0_0.length c0_0, .int .i64 a0_1, .slice (some ad181) l0_2.length c0_2] 44 (0, 0)) (by (with_reducible repeat (first | refine blk_drewN ?_ _ | refine blk_drew ?_ | refine blk_alloc ?_ _)); exact BK179.out) hb); have n1_ := Aside0.mk (below_step (by repeat (first | (with_reducible first | exact HB.out | apply below_alloc | apply pw_below_drewN | apply below_drew1 | refine below_set ?_ GE179.out) | exact HB.out)) hb); clear BK179; clear HB; have BK179 := n0_; have HB := n1_; clear n0_ n1_; (try clear hb); (try clear hb2); (try clear hk); (try clear hi)))
                                  go_roundg k3
                                  case measure => have := HJ1.out; have := HK2.out; have := HK3.out; omega
                                  case rel => exact ⟨(wrap64 (x49_3 + 1)), (by first | rfl | (simp; done) | (simp [*]; done)), H', ⟨by have := HJ1.out; have := HK2.out; have := HK3.out; omega⟩, ⟨by (with_reducible repeat (first | refine blk_drewN ?_ _ | refine blk_drew ?_ | refine blk_alloc ?_ _)); exact BK179.out⟩, ⟨by repeat (first | (with_reducible first | exact HB.out | apply below_alloc | apply pw_below_drewN | apply below_drew1 | refine below_set ?_ GE179.out) | exact HB.out)⟩⟩
                                · replace c27 := Bool.eq_false_iff.mpr c27
                                  subst c27
                                  have H1 : (some false) = some r := by rw [if_neg (show ¬ (false = true) by decide)] at H; exact H
                                  clear H
                                  have H := H1
                                  clear H1
                                  obtain rfl := Option.some.inj H
                                  have p182 : 0 ≤ (x49_3 : Int) := of_decide_eq_true (by first | (with_reducible assumption) | assumption)
                                  have q182 : x49_3 < ((rd_L5 l0_2 x37_2).length : Int) := of_decide_eq_true (by first | (with_reducible assumption) | assumption)
                                  obtain ⟨ad182, A182_0, c182_0, e182, hx182_0, hl182_0, hi182_0⟩ := at_L4 HR181_0.out x49_3 p182 q182
                                  cases e182
                                  replace hx182_0 := (HB.out.cell (World.block_lt_of_cell? w _ hx182_0)).trans hx182_0
                                  have HR182_0 := Aside0.mk hi182_0
                                  have HC182_0 := Aside0.mk hl182_0
                                  clear hi182_0 hl182_0
                                  replace p182 := eq_true p182
                                  replace q182 := eq_true q182
                                  have hcz30_0 : wr.cell? ⟨gb179, 0, none⟩ = some (.slice A0_0 l0_0.length c0_0) := (blk_cell BK179.out 0).trans rfl
                                  have hcz30_1 : wr.cell? ⟨gb179, 1, none⟩ = some (.int .i64 a0_1) := (blk_cell BK179.out 1).trans rfl
                                  have hcz30_2 : wr.cell? ⟨gb179, 2, none⟩ = some (.slice (some ad181) l0_2.length c0_2) := (blk_cell BK179.out 2).trans rfl
                                  have hfz30_0 := blk_frozen BK179.out 0
                                  have hfz30_1 := blk_frozen BK179.out 1
                                  have hfz30_2 := blk_frozen BK179.out 2
                                  have p183 : 0 ≤ (x49_3 : Int) := of_decide_eq_true (by first | (with_reducible assumption) | assumption)
                                  have q183 : x49_3 < (l0_0.length : Int) := of_decide_eq_true (by first | (with_reducible assumption) | assumption)
                                  obtain ⟨ad183, e183, hx183_0⟩ := Kd.at_int HR0_0.out x49_3 p183 q183
                                  cases e183
                                  replace hx183_0 := (HB.out.cell (World.block_lt_of_cell? w _ hx183_0)).trans hx183_0
                                  replace p183 := eq_true p183
                                  replace q183 := eq_true q183
                                  go_wp2_with (first | ((with_reducible refine gate_callee (f := 69) rfl ?_); refine goesL_ (some 61) rfl rfl Try.func69 (by kernel_rfl) rfl #[.slice A182_0 (rd_L4 (rd_L5 l0_2 x37_2) x49_3).length c182_0, .int .i64 (rd l0_0 x49_3), .int .i64 (l0_2.length : Int)] rfl (by (try simp only [List.map_toArray, List.map_cons, List.map_nil]); first | done | rfl | (simp only [List.length_drop, List.length_take]; rfl)) ?_; (with_reducible refine (virgationref09_alternatives.calls k3 _ _ (rd_L4 (rd_L5 l0_2 x37_2) x49_3) (rd l0_0 x49_3) (l0_2.length : Int) false _ ?side1 ?side2 A26.out).mono ?_); (case side1 => repeat (first | exact (Kd.C_below HR182_0.out HB.out) | (with_reducible refine Kd.C_alloc ?_ _) | (with_reducible refine Kd.C_drewN ?_ _) | (with_reducible refine Kd.C_drew ?_))); (case side2 => exact HC182_0.out); rintro e w31 ⟨rfl, hb⟩; refine ⟨_, rfl, ?_⟩; have n0_ := Aside0.mk (blk_below (g := gb179) (o := .cells #[.slice (some ad183) l0_0.length c0_0, .int .i64 a0_1, .slice (some ad181) l0_2.length c0_2] 44 (0, 0)) (by (with_reducible repeat (first | refine blk_drewN ?_ _ | refine blk_drew ?_ | refine blk_alloc ?_ _)); exact BK179.out) hb); have n1_ := Aside0.mk (below_step (by repeat (first | (with_reducible first | exact HB.out | apply below_alloc | apply pw_below_drewN | apply below_drew1 | refine below_set ?_ GE179.out) | exact HB.out)) hb); clear BK179; clear HB; have BK179 := n0_; have HB := n1_; clear n0_ n1_; (try clear hb); (try clear hb2); (try clear hk); (try clear hi)))
                                  go_ret
                                  exact ⟨by first | rfl | (simp [errW_none, errW_some] <;> rfl) | (simp [*, errW_none, errW_some] <;> rfl), by repeat (first | (with_reducible first | exact HB.out | apply below_alloc | apply pw_below_drewN | apply below_drew1 | refine below_set ?_ GE179.out) | exact HB.out)⟩
                              · rw [if_neg c25] at H
                                exact absurd H (by simp)
                            · rw [if_neg c24] at H
                              exact absurd H (by simp)
                          · rw [if_neg c23] at H
                            exact absurd H (by simp)
                        · rw [if_neg c22] at H
                          have c22b0 : decide (x49_3 < ((rd_L5 l0_2 x37_2).length : Int)) = false := decide_eq_false c22
                          clear c22
                          have H' := Aside0.mk H
                          clear H
                          go_wp2
                          go_roundg k3
                          case measure => have := HJ1.out; have := HK2.out; have := HK3.out; omega
                          case rel => exact ⟨(wrap64 (x37_2 + 1)), (by first | rfl | (simp; done) | (simp [*]; done)), H', ⟨by have := HJ1.out; have := HK2.out; have := HK3.out; omega⟩, ⟨by (with_reducible repeat (first | refine blk_drewN ?_ _ | refine blk_drew ?_ | refine blk_alloc ?_ _)); exact BK179.out⟩, ⟨by repeat (first | (with_reducible first | exact HB.out | apply below_alloc | apply pw_below_drewN | apply below_drew1 | refine below_set ?_ GE179.out) | exact HB.out)⟩⟩
                  · rw [if_neg c20] at H
                    have c20b0 : (((rd_L5 l0_2 x37_2).length : Int) == (l0_0.length : Int)) = false := beq_eq_false_iff_ne.mpr c20
                    have c20b1 : (((rd_L5 l0_2 x37_2).length : Int) != (l0_0.length : Int)) = true := bne_iff_ne.mpr c20
                    have c20b2 : ((rd_L5 l0_2 x37_2).length == l0_0.length) = false := by first | simpa using c20 | (simp at c20 ⊢; omega)
                    obtain rfl := Option.some.inj H
                    have p181 : 0 ≤ (x37_2 : Int) := of_decide_eq_true (by first | (with_reducible assumption) | assumption)
                    have q181 : x37_2 < (l0_2.length : Int) := of_decide_eq_true (by first | (with_reducible assumption) | assumption)
                    obtain ⟨ad181, A181_0, c181_0, e181, hx181_0, hl181_0, hi181_0⟩ := at_L5 HR0_2.out x37_2 p181 q181
                    cases e181
                    replace hx181_0 := (HB.out.cell (World.block_lt_of_cell? w _ hx181_0)).trans hx181_0
                    have HR181_0 := Aside0.mk hi181_0
                    have HC181_0 := Aside0.mk hl181_0
                    clear hi181_0 hl181_0
                    replace p181 := eq_true p181
                    replace q181 := eq_true q181
                    have hcz32_0 : wr.cell? ⟨gb179, 0, none⟩ = some (.slice A0_0 l0_0.length c0_0) := (blk_cell BK179.out 0).trans rfl
                    have hcz32_1 : wr.cell? ⟨gb179, 1, none⟩ = some (.int .i64 a0_1) := (blk_cell BK179.out 1).trans rfl
                    have hcz32_2 : wr.cell? ⟨gb179, 2, none⟩ = some (.slice (some ad181) l0_2.length c0_2) := (blk_cell BK179.out 2).trans rfl
                    have hfz32_0 := blk_frozen BK179.out 0
                    have hfz32_1 := blk_frozen BK179.out 1
                    have hfz32_2 := blk_frozen BK179.out 2
                    go_wp2
                    go_ret
                    exact ⟨by first | rfl | (simp [errW_none, errW_some] <;> rfl) | (simp [*, errW_none, errW_some] <;> rfl), by repeat (first | (with_reducible first | exact HB.out | apply below_alloc | apply pw_below_drewN | apply below_drew1 | refine below_set ?_ GE179.out) | exact HB.out)⟩
                · rw [if_neg c19] at H
                  exact absurd H (by simp)
              · rw [if_neg c18] at H
                exact absurd H (by simp)
            · rw [if_neg c17] at H
              have c17b0 : decide (x37_2 < (l0_2.length : Int)) = false := decide_eq_false c17
              clear c17
              obtain rfl := Option.some.inj H
              go_wp2
              go_ret
              exact ⟨by first | rfl | (simp [errW_none, errW_some] <;> rfl) | (simp [*, errW_none, errW_some] <;> rfl), by repeat (first | (with_reducible first | exact HB.out | apply below_alloc | apply pw_below_drewN | apply below_drew1 | refine below_set ?_ GE179.out) | exact HB.out)⟩
end Go.Proofs.Ytmphigeefppfpaa.Q
namespace Go.Proofs.Ytmphigeefppfpaa.Q
open Go.RowKit Go.Proofs.YtmphigeefppfpaaW.PrintWords Go.Proofs.YtmphigeefppfpaaW.PrintLast Go.Proofs.YtmphigeefppfpaaW.PrintMore
attribute [local go_sem] max2_int min2_int max_two min_two max_three min_three max_four min_four
set_option linter.unusedVariables false
set_option linter.unusedSimpArgs false
def virgationref09_SameRanks.l0 : Nat → List Int → List Int → Int → Int → Option (Bool)
  | 0, _, _, _, _ => none
  | k + 1, x0, x1, x12, x13 => if x13 < x12 then (if 0 ≤ x13 then (if x13 < (x0.length : Int) then (if x13 < (x1.length : Int) then (if (rd x0 x13) = (rd x1 x13) then (virgationref09_SameRanks.l0 k x0 x1 x12 (wrap64 (x13 + 1))) else (some false)) else (none)) else (none)) else (none)) else (some true)
def virgationref09_SameRanks.f (k : Nat) (l0 : List Int) (l1 : List Int) : Option (Bool) := if (l0.length : Int) = (l1.length : Int) then (virgationref09_SameRanks.l0 k l0 l1 (l0.length : Int) 0) else (some false)
set_option maxHeartbeats 8000000 in
set_option maxRecDepth 100000 in
theorem virgationref09_SameRanks.calls (k : Nat) (A0 : Option Addr) (c0 : Nat) (l0 : List Int) (A1 : Option Addr) (c1 : Nat) (l1 : List Int) (r : Bool) (w : World) (hr0 : Kd.C (Kd.int .i64) w A0 l0.length l0) (hc0 : l0.length ≤ c0) (hr1 : Kd.C (Kd.int .i64) w A1 l1.length l1) (hc1 : l1.length ≤ c1) (h : virgationref09_SameRanks.f k l0 l1 = some r) :
    Calls Try.prog 60 #[.slice A0 l0.length c0, .slice A1 l1.length c1] w fun e w' => e = .returned (.bool r) ∧ Drawn0 w w' := by
  have HR0 := Aside0.mk hr0
  have HC0 := Aside0.mk hc0
  clear hr0 hc0
  have HR1 := Aside0.mk hr1
  have HC1 := Aside0.mk hc1
  clear hr1 hc1
  have H : (if (l0.length : Int) = (l1.length : Int) then (virgationref09_SameRanks.l0 k l0 l1 (l0.length : Int) 0) else (some false)) = some r := h
  clear h
  by_cases c3 : (l0.length : Int) = (l1.length : Int)
  · rw [if_pos c3] at H
    have c3b0 : ((l0.length : Int) == (l1.length : Int)) = true := beq_iff_eq.mpr c3
    have c3b1 : ((l0.length : Int) != (l1.length : Int)) = false := bne_eq_false_iff_eq.mpr c3
    have c3b2 : (l0.length == l1.length) = true := by first | simpa using c3 | (simp at c3 ⊢; omega)
    clear c3
    have H' := Aside0.mk H
    clear H
    go_enter Try.func60, Try.ntmps60
    go_wp2
    repeat (go_quiet (fail); try go_wp2)
    go_loopg [13] k (fun kq v13 w' => ∃ (x13_1 : Int), v13 = .int .i64 x13_1 ∧ Aside0 (virgationref09_SameRanks.l0 kq l0 l1 (l0.length : Int) x13_1 = some r) ∧ Aside0 (kq ≤ k) ∧ Drawn0 w w')
    case atStart => exact ⟨(0), (by first | rfl | (simp; done) | (simp [*]; done)), H', ⟨Nat.le_refl _⟩, by repeat (first | exact Drawn0.refl _ | apply Drawn0.step)⟩
    case round =>
      clear H'
      try clear c1
      try clear p2
      try clear c3
      try clear c3b0
      try clear c3b1
      try clear c3b2
      obtain ⟨x13_1, rfl, HA, HK1, ⟨m1, rfl⟩⟩ := hrel
      cases gk with
      | zero => exact absurd HA.out (by simp [virgationref09_SameRanks.l0])
      | succ k1 =>
        have H := HA.out
        clear HA
        simp only [virgationref09_SameRanks.l0] at H
        by_cases c4 : x13_1 < (l0.length : Int)
        · rw [if_pos c4] at H
          have c4b0 : decide (x13_1 < (l0.length : Int)) = true := decide_eq_true c4
          clear c4
          by_cases c5 : 0 ≤ x13_1
          · rw [if_pos c5] at H
            have c5b0 : decide (0 ≤ x13_1) = true := decide_eq_true c5
            clear c5
            by_cases c6 : x13_1 < (l0.length : Int)
            · rw [if_pos c6] at H
              have c6b0 : decide (x13_1 < (l0.length : Int)) = true := decide_eq_true c6
              clear c6
              by_cases c7 : x13_1 < (l1.length : Int)
              · rw [if_pos c7] at H
                have c7b0 : decide (x13_1 < (l1.length : Int)) = true := decide_eq_true c7
                clear c7
                by_cases c8 : (rd l0 x13_1) = (rd l1 x13_1)
                · rw [if_pos c8] at H
                  have c8b0 : ((rd l0 x13_1) == (rd l1 x13_1)) = true := beq_iff_eq.mpr c8
                  have c8b1 : ((rd l0 x13_1) != (rd l1 x13_1)) = false := bne_eq_false_iff_eq.mpr c8
                  clear c8
                  have H' := Aside0.mk H
                  clear H
                  have p185 : 0 ≤ (x13_1 : Int) := of_decide_eq_true (by first | (with_reducible assumption) | assumption)
                  have q185 : x13_1 < (l0.length : Int) := of_decide_eq_true (by first | (with_reducible assumption) | assumption)
                  obtain ⟨ad185, e185, hx185_0⟩ := Kd.at_int HR0.out x13_1 p185 q185
                  cases e185
                  replace p185 := eq_true p185
                  replace q185 := eq_true q185
                  have p186 : 0 ≤ (x13_1 : Int) := of_decide_eq_true (by first | (with_reducible assumption) | assumption)
                  have q186 : x13_1 < (l1.length : Int) := of_decide_eq_true (by first | (with_reducible assumption) | assumption)
                  obtain ⟨ad186, e186, hx186_0⟩ := Kd.at_int HR1.out x13_1 p186 q186
                  cases e186
                  replace p186 := eq_true p186
                  replace q186 := eq_true q186
                  go_wp2
                  repeat (go_quiet (fail); try go_wp2)
                  go_roundg k1
                  case measure => have := HK1.out; omega
                  case rel => exact ⟨(wrap64 (x13_1 + 1)), (by first | rfl | (simp; done) | (simp [*]; done)), H', ⟨by have := HK1.out; omega⟩, by repeat (first | exact Drawn0.refl _ | apply Drawn0.step)⟩
                · rw [if_neg c8] at H
                  have c8b0 : ((rd l0 x13_1) == (rd l1 x13_1)) = false := beq_eq_false_iff_ne.mpr c8
                  have c8b1 : ((rd l0 x13_1) != (rd l1 x13_1)) = true := bne_iff_ne.mpr c8
                  obtain rfl := Option.some.inj H
                  have p185 : 0 ≤ (x13_1 : Int) := of_decide_eq_true (by first | (with_reducible assumption) | assumption)
                  have q185 : x13_1 < (l0.length : Int) := of_decide_eq_true (by first | (with_reducible assumption) | assumption)
                  obtain ⟨ad185, e185, hx185_0⟩ := Kd.at_int HR0.out x13_1 p185 q185
                  cases e185
                  replace p185 := eq_true p185
                  replace q185 := eq_true q185
                  have p186 : 0 ≤ (x13_1 : Int) := of_decide_eq_true (by first | (with_reducible assumption) | assumption)
                  have q186 : x13_1 < (l1.length : Int) := of_decide_eq_true (by first | (with_reducible assumption) | assumption)
                  obtain ⟨ad186, e186, hx186_0⟩ := Kd.at_int HR1.out x13_1 p186 q186
                  cases e186
                  replace p186 := eq_true p186
                  replace q186 := eq_true q186
                  go_wp2
                  repeat (go_quiet (fail); try go_wp2)
                  go_ret
                  exact ⟨by first | rfl | (simp; done) | (simp [*]; done), by repeat (first | exact Drawn0.refl _ | apply Drawn0.step)⟩
              · rw [if_neg c7] at H
                exact absurd H (by simp)
            · rw [if_neg c6] at H
              exact absurd H (by simp)
          · rw [if_neg c5] at H
            exact absurd H (by simp)
        · rw [if_neg c4] at H
          have c4b0 : decide (x13_1 < (l0.length : Int)) = false := decide_eq_false c4
          clear c4
          obtain rfl := Option.some.inj H
          go_wp2
          repeat (go_quiet (fail); try go_wp2)
          go_ret
          exact ⟨by first | rfl | (simp; done) | (simp [*]; done), by repeat (first | exact Drawn0.refl _ | apply Drawn0.step)⟩
  · rw [if_neg c3] at H
    have c3b0 : ((l0.length : Int) == (l1.length : Int)) = false := beq_eq_false_iff_ne.mpr c3
    have c3b1 : ((l0.length : Int) != (l1.length : Int)) = true := bne_iff_ne.mpr c3
    have c3b2 : (l0.length == l1.length) = false := by first | simpa using c3 | (simp at c3 ⊢; omega)
    obtain rfl := Option.some.inj H
    go_enter Try.func60, Try.ntmps60
    go_wp2
    repeat (go_quiet (fail); try go_wp2)
    go_ret
    exact ⟨by first | rfl | (simp; done) | (simp [*]; done), by repeat (first | exact Drawn0.refl _ | apply Drawn0.step)⟩
def virgationref09_EqualMoves.l0 : Nat → List (List (S78)) → List (List (S78)) → Int → Int → Option (Bool)
  | 0, _, _, _, _ => none
  | k + 1, x0, x1, x12, x13 => if x13 < x12 then (if 0 ≤ x13 then (if x13 < (x0.length : Int) then (if x13 < (x1.length : Int) then ((virgationref09_Compare.f k (rd_L3 x0 x13) (rd_L3 x1 x13)).bind fun t189 => (if t189 = 0 then (virgationref09_EqualMoves.l0 k x0 x1 x12 (wrap64 (x13 + 1))) else (some false))) else (none)) else (none)) else (none)) else (some true)
def virgationref09_EqualMoves.f (k : Nat) (l0 : List (List (S78))) (l1 : List (List (S78))) : Option (Bool) := if (l0.length : Int) = (l1.length : Int) then (virgationref09_EqualMoves.l0 k l0 l1 (l0.length : Int) 0) else (some false)
def virgationref09_EqualMoves.T6 : Bool × List (List Nat × List Nat) := (true, [([], []), ([], []), ([0, 1], [0, 1]), ([2], [2]), ([], []), ([], []), ([4, 5], [4, 5]), ([6], [6]), ([3, 7], [3, 7]), ([8], [8])])
def virgationref09_EqualMoves.B6 : List Nat := [0, 0, 3, 7, 0, 0, 48, 112, 255, 511]
theorem virgationref09_EqualMoves.tab6 : rtab .any (opsOf Try.f61 6) = virgationref09_EqualMoves.T6 := by kernel_rfl
theorem virgationref09_EqualMoves.bits6 : waitsOk virgationref09_EqualMoves.T6.2 virgationref09_EqualMoves.B6 = true := by kernel_rfl
set_option maxHeartbeats 8000000 in
set_option maxRecDepth 100000 in
theorem virgationref09_EqualMoves.calls (k : Nat) (A0 : Option Addr) (c0 : Nat) (l0 : List (List (S78))) (A1 : Option Addr) (c1 : Nat) (l1 : List (List (S78))) (r : Bool) (w : World) (hr0 : Kd.C (Kd.slice 78 k78) w A0 l0.length l0) (hc0 : l0.length ≤ c0) (hr1 : Kd.C (Kd.slice 78 k78) w A1 l1.length l1) (hc1 : l1.length ≤ c1) (h : virgationref09_EqualMoves.f k l0 l1 = some r) :
    Calls Try.prog 61 #[.slice A0 l0.length c0, .slice A1 l1.length c1] w fun e w' => e = .returned (.bool r) ∧ Below w.heap.size w w' := by
  have HR0 := Aside0.mk hr0
  have HC0 := Aside0.mk hc0
  clear hr0 hc0
  have HR1 := Aside0.mk hr1
  have HC1 := Aside0.mk hc1
  clear hr1 hc1
  have HB := Aside0.mk (Below.refl w.heap.size w)
  have H : (if (l0.length : Int) = (l1.length : Int) then (virgationref09_EqualMoves.l0 k l0 l1 (l0.length : Int) 0) else (some false)) = some r := h
  clear h
  by_cases c3 : (l0.length : Int) = (l1.length : Int)
  · rw [if_pos c3] at H
    have c3b0 : ((l0.length : Int) == (l1.length : Int)) = true := beq_iff_eq.mpr c3
    have c3b1 : ((l0.length : Int) != (l1.length : Int)) = false := bne_eq_false_iff_eq.mpr c3
    have c3b2 : (l0.length == l1.length) = true := by first | simpa using c3 | (simp at c3 ⊢; omega)
    clear c3
    have H' := Aside0.mk H
    clear H
    go_enter Try.func61, Try.ntmps61
    go_wp2
    go_loopg [13] k (fun kq v13 w' => ∃ (x13_1 : Int), v13 = .int .i64 x13_1 ∧ Aside0 (virgationref09_EqualMoves.l0 kq l0 l1 (l0.length : Int) x13_1 = some r) ∧ Aside0 (kq ≤ k) ∧ Aside0 (Below w.heap.size w w'))
    case atStart => exact ⟨(0), (by first | rfl | (simp; done) | (simp [*]; done)), H', ⟨Nat.le_refl _⟩, ⟨by repeat (first | (with_reducible first | exact HB.out | apply below_alloc | apply pw_below_drewN | apply below_drew1) | exact HB.out)⟩⟩
    case round =>
      clear H'
      try clear c1
      try clear p2
      try clear c3
      try clear c3b0
      try clear c3b1
      try clear c3b2
      obtain ⟨x13_1, rfl, HA, HK1, HB⟩ := hrel
      cases gk with
      | zero => exact absurd HA.out (by simp [virgationref09_EqualMoves.l0])
      | succ k1 =>
        have H := HA.out
        clear HA
        simp only [virgationref09_EqualMoves.l0] at H
        by_cases c4 : x13_1 < (l0.length : Int)
        · rw [if_pos c4] at H
          have c4b0 : decide (x13_1 < (l0.length : Int)) = true := decide_eq_true c4
          clear c4
          by_cases c5 : 0 ≤ x13_1
          · rw [if_pos c5] at H
            have c5b0 : decide (0 ≤ x13_1) = true := decide_eq_true c5
            clear c5
            by_cases c6 : x13_1 < (l0.length : Int)
            · rw [if_pos c6] at H
              have c6b0 : decide (x13_1 < (l0.length : Int)) = true := decide_eq_true c6
              clear c6
              by_cases c7 : x13_1 < (l1.length : Int)
              · rw [if_pos c7] at H
                have c7b0 : decide (x13_1 < (l1.length : Int)) = true := decide_eq_true c7
                clear c7
                replace H := Option.bind_eq_some_iff.mp H
                obtain ⟨t189, A80, H⟩ := H
                replace H : (if t189 = 0 then (virgationref09_EqualMoves.l0 k1 l0 l1 (l0.length : Int) (wrap64 (x13_1 + 1))) else (some false)) = some r := H
                have A8 := Aside0.mk A80
                clear A80
                by_cases c9 : t189 = 0
                · rw [if_pos c9] at H
                  have c9b0 : (t189 == 0) = true := beq_iff_eq.mpr c9
                  have c9b1 : (t189 != 0) = false := bne_eq_false_iff_eq.mpr c9
                  clear c9
                  have H' := Aside0.mk H
                  clear H
                  try go_wp2
                  have n0_ := Aside0.mk (below_drew1 HB.out)
                  clear HB
                  have HB := n0_
                  clear n0_
                  have p187 : 0 ≤ (x13_1 : Int) := of_decide_eq_true (by first | (with_reducible assumption) | assumption)
                  have q187 : x13_1 < (l0.length : Int) := of_decide_eq_true (by first | (with_reducible assumption) | assumption)
                  obtain ⟨ad187, A187_0, c187_0, e187, hx187_0, hl187_0, hi187_0⟩ := at_L3 HR0.out x13_1 p187 q187
                  have hw187_0 := hx187_0
                  cases e187
                  replace hx187_0 := (HB.out.cell (World.block_lt_of_cell? w _ hx187_0)).trans hx187_0
                  have HR187_0 := Aside0.mk hi187_0
                  have HC187_0 := Aside0.mk hl187_0
                  clear hi187_0 hl187_0
                  replace p187 := eq_true p187
                  replace q187 := eq_true q187
                  have p188 : 0 ≤ (x13_1 : Int) := of_decide_eq_true (by first | (with_reducible assumption) | assumption)
                  have q188 : x13_1 < (l1.length : Int) := of_decide_eq_true (by first | (with_reducible assumption) | assumption)
                  obtain ⟨ad188, A188_0, c188_0, e188, hx188_0, hl188_0, hi188_0⟩ := at_L3 HR1.out x13_1 p188 q188
                  have hw188_0 := hx188_0
                  cases e188
                  replace hx188_0 := (HB.out.cell (World.block_lt_of_cell? w _ hx188_0)).trans hx188_0
                  have HR188_0 := Aside0.mk hi188_0
                  have HC188_0 := Aside0.mk hl188_0
                  clear hi188_0 hl188_0
                  replace p188 := eq_true p188
                  replace q188 := eq_true q188
                  refine start_ (n := 10) (S := fun w' => w'.cell? (ad187.add (x13_1).toNat) = some (.slice A187_0 (rd_L3 l0 x13_1).length c187_0) ∧ w'.cell? (ad188.add (x13_1).toNat) = some (.slice A188_0 (rd_L3 l1 x13_1).length c188_0)) (ds := []) #[false, false, false, false, false, false, false, false, false, false] (by kernel_rfl) rfl rfl ⟨((HB.out.cell (World.block_lt_of_cell? w _ hw187_0)).trans hw187_0), ((HB.out.cell (World.block_lt_of_cell? w _ hw188_0)).trans hw188_0)⟩ (fun hHeld => ?_); refine with_tabW virgationref09_EqualMoves.tab6 virgationref09_EqualMoves.bits6 (fun HT_ HW_ => ?_)
                  generalize wr.drew = w10 at HB HR187_0 HR188_0 hx187_0 hx188_0 hHeld ⊢
                  refine pure_ (i := 0) (N := some 16) (v := ?_) (a' := ?_) #[true, false, false, false, false, false, false, false, false, false] rfl rfl (any_of HT_.out (by kernel_rfl)) (fun _ _ _ h => h) (Or.inl ⟨by rfl, ?_⟩) ?_ ?_
                  rotate_left
                  · intro w'
                    go_simp
                    with_reducible rfl
                  rotate_left
                  · simp only [Act.put, List.setIfInBounds_toArray, List.set_cons_zero, List.set_cons_succ, i64_w, i32_w]
                    rfl
                  refine pure_ (i := 1) (N := some 17) (v := ?_) (a' := ?_) #[true, true, false, false, false, false, false, false, false, false] rfl rfl (any_of HT_.out (by kernel_rfl)) (fun _ _ _ h => h) (Or.inl ⟨by rfl, ?_⟩) ?_ ?_
                  rotate_left
                  · intro w'
                    go_simp
                    with_reducible rfl
                  rotate_left
                  · simp only [Act.put, List.setIfInBounds_toArray, List.set_cons_zero, List.set_cons_succ, i64_w, i32_w]
                    rfl
                  refine pure_ (i := 2) (N := some 18) (v := ?_) (a' := ?_) #[true, true, true, false, false, false, false, false, false, false] rfl rfl (any_of HT_.out (by kernel_rfl)) (fun _ _ _ h => h) (Or.inl ⟨by rfl, ?_⟩) ?_ ?_
                  rotate_left
                  · intro w'
                    go_simp
                    with_reducible rfl
                  rotate_left
                  · simp only [Act.put, List.setIfInBounds_toArray, List.set_cons_zero, List.set_cons_succ, i64_w, i32_w]
                    rfl
                  refine pure_ (i := 4) (N := some 20) (v := ?_) (a' := ?_) #[true, true, true, false, true, false, false, false, false, false] rfl rfl (any_of HT_.out (by kernel_rfl)) (fun _ _ _ h => h) (Or.inl ⟨by rfl, ?_⟩) ?_ ?_
                  rotate_left
                  · intro w'
                    go_simp
                    with_reducible rfl
                  rotate_left
                  · simp only [Act.put, List.setIfInBounds_toArray, List.set_cons_zero, List.set_cons_succ, i64_w, i32_w]
                    rfl
                  refine pure_ (i := 5) (N := some 21) (v := ?_) (a' := ?_) #[true, true, true, false, true, true, false, false, false, false] rfl rfl (any_of HT_.out (by kernel_rfl)) (fun _ _ _ h => h) (Or.inl ⟨by rfl, ?_⟩) ?_ ?_
                  rotate_left
                  · intro w'
                    go_simp
                    with_reducible rfl
                  rotate_left
                  · simp only [Act.put, List.setIfInBounds_toArray, List.set_cons_zero, List.set_cons_succ, i64_w, i32_w]
                    rfl
                  refine pure_ (i := 6) (N := some 22) (v := ?_) (a' := ?_) #[true, true, true, false, true, true, true, false, false, false] rfl rfl (any_of HT_.out (by kernel_rfl)) (fun _ _ _ h => h) (Or.inl ⟨by rfl, ?_⟩) ?_ ?_
                  rotate_left
                  · intro w'
                    go_simp
                    with_reducible rfl
                  rotate_left
                  · simp only [Act.put, List.setIfInBounds_toArray, List.set_cons_zero, List.set_cons_succ, i64_w, i32_w]
                    rfl
                  refine take_ (i := 3) (N := some 19) (v := ?_) (a' := ?_) #[true, true, true, true, true, true, true, false, false, false] rfl rfl (take_ofW HT_.out HW_.out (by kernel_rfl)) (fun _ _ _ h => h) (Or.inl ⟨by rfl, ?_⟩) hHeld ?_ ?_
                  rotate_left
                  · rintro w' ⟨s0, s1⟩
                    go_simp
                    with_reducible rfl
                  rotate_left
                  · simp only [Act.put, List.setIfInBounds_toArray, List.set_cons_zero, List.set_cons_succ, i64_w, i32_w]
                    rfl
                  refine take_ (i := 7) (N := some 23) (v := ?_) (a' := ?_) #[true, true, true, true, true, true, true, true, false, false] rfl rfl (take_ofW HT_.out HW_.out (by kernel_rfl)) (fun _ _ _ h => h) (Or.inl ⟨by rfl, ?_⟩) hHeld ?_ ?_
                  rotate_left
                  · rintro w' ⟨s0, s1⟩
                    go_simp
                    with_reducible rfl
                  rotate_left
                  · simp only [Act.put, List.setIfInBounds_toArray, List.set_cons_zero, List.set_cons_succ, i64_w, i32_w]
                    rfl
                  refine one_ (i := 8) (N := some 24) #[true, true, true, true, true, true, true, true, true, false] rfl rfl (one_of HT_.out (by kernel_rfl)) (by decide) (fun K hK => ?_)
                  refine goes_ Try.func70 (by kernel_rfl) rfl #[.slice A187_0 (rd_L3 l0 x13_1).length c187_0, .slice A188_0 (rd_L3 l1 x13_1).length c188_0] (by rfl) rfl rfl (by (try simp only [List.map_toArray, List.map_cons, List.map_nil]); first | done | rfl | (simp only [List.length_drop, List.length_take]; rfl)) ?_
                  with_reducible refine (virgationref09_Compare.calls k1 _ _ (rd_L3 l0 x13_1) _ _ (rd_L3 l1 x13_1) t189 _ ?side1 ?side2 ?side3 ?side4 A8.out).mono ?_
                  (case side1 => repeat (first | exact (Kd.C_below HR187_0.out HB.out) | (with_reducible refine Kd.C_alloc ?_ _) | (with_reducible refine Kd.C_drewN ?_ _) | (with_reducible refine Kd.C_drew ?_)))
                  (case side2 => exact HC187_0.out)
                  (case side3 => repeat (first | exact (Kd.C_below HR188_0.out HB.out) | (with_reducible refine Kd.C_alloc ?_ _) | (with_reducible refine Kd.C_drewN ?_ _) | (with_reducible refine Kd.C_drew ?_)))
                  (case side4 => exact HC188_0.out)
                  rintro e w11 ⟨rfl, hb⟩
                  refine ⟨_, rfl, ?_⟩
                  have n0_ := Aside0.mk (below_step (by repeat (first | (with_reducible first | exact HB.out | apply below_alloc | apply pw_below_drewN | apply below_drew1) | exact HB.out)) hb)
                  clear HB
                  have HB := n0_
                  clear n0_
                  (try clear hb)
                  (try clear hb2)
                  (try clear hk)
                  (try clear hi)
                  refine hK.out _ _ ⟨((HB.out.cell (World.block_lt_of_cell? w _ hw187_0)).trans hw187_0), ((HB.out.cell (World.block_lt_of_cell? w _ hw188_0)).trans hw188_0)⟩ (fun hHeld => ?_)
                  clear hK K
                  refine norm_ (a' := ?_) ?_ ?_
                  rotate_left
                  · show Act.put _ (some 24) _ = _
                    simp only [Act.put, List.setIfInBounds_toArray, List.set_cons_zero, List.set_cons_succ, i64_w, i32_w]
                    rfl
                  refine pure_ (i := 9) (N := some 25) (v := ?_) (a' := ?_) #[true, true, true, true, true, true, true, true, true, true] rfl rfl (any_of HT_.out (by kernel_rfl)) (fun _ _ _ h => h) (Or.inl ⟨by rfl, ?_⟩) ?_ ?_
                  rotate_left
                  · intro w'
                    go_simp
                    with_reducible rfl
                  rotate_left
                  · simp only [Act.put, List.setIfInBounds_toArray, List.set_cons_zero, List.set_cons_succ, i64_w, i32_w]
                    rfl
                  refine done_ (done_of HT_.out (by kernel_rfl)) ?_
                  try go_wp2
                  go_roundg k1
                  case measure => have := HK1.out; omega
                  case rel => exact ⟨(wrap64 (x13_1 + 1)), (by first | rfl | (simp; done) | (simp [*]; done)), H', ⟨by have := HK1.out; omega⟩, ⟨by repeat (first | (with_reducible first | exact HB.out | apply below_alloc | apply pw_below_drewN | apply below_drew1) | exact HB.out)⟩⟩
                · rw [if_neg c9] at H
                  have c9b0 : (t189 == 0) = false := beq_eq_false_iff_ne.mpr c9
                  have c9b1 : (t189 != 0) = true := bne_iff_ne.mpr c9
                  obtain rfl := Option.some.inj H
                  try go_wp2
                  have n0_ := Aside0.mk (below_drew1 HB.out)
                  clear HB
                  have HB := n0_
                  clear n0_
                  have p187 : 0 ≤ (x13_1 : Int) := of_decide_eq_true (by first | (with_reducible assumption) | assumption)
                  have q187 : x13_1 < (l0.length : Int) := of_decide_eq_true (by first | (with_reducible assumption) | assumption)
                  obtain ⟨ad187, A187_0, c187_0, e187, hx187_0, hl187_0, hi187_0⟩ := at_L3 HR0.out x13_1 p187 q187
                  have hw187_0 := hx187_0
                  cases e187
                  replace hx187_0 := (HB.out.cell (World.block_lt_of_cell? w _ hx187_0)).trans hx187_0
                  have HR187_0 := Aside0.mk hi187_0
                  have HC187_0 := Aside0.mk hl187_0
                  clear hi187_0 hl187_0
                  replace p187 := eq_true p187
                  replace q187 := eq_true q187
                  have p188 : 0 ≤ (x13_1 : Int) := of_decide_eq_true (by first | (with_reducible assumption) | assumption)
                  have q188 : x13_1 < (l1.length : Int) := of_decide_eq_true (by first | (with_reducible assumption) | assumption)
                  obtain ⟨ad188, A188_0, c188_0, e188, hx188_0, hl188_0, hi188_0⟩ := at_L3 HR1.out x13_1 p188 q188
                  have hw188_0 := hx188_0
                  cases e188
                  replace hx188_0 := (HB.out.cell (World.block_lt_of_cell? w _ hx188_0)).trans hx188_0
                  have HR188_0 := Aside0.mk hi188_0
                  have HC188_0 := Aside0.mk hl188_0
                  clear hi188_0 hl188_0
                  replace p188 := eq_true p188
                  replace q188 := eq_true q188
                  refine start_ (n := 10) (S := fun w' => w'.cell? (ad187.add (x13_1).toNat) = some (.slice A187_0 (rd_L3 l0 x13_1).length c187_0) ∧ w'.cell? (ad188.add (x13_1).toNat) = some (.slice A188_0 (rd_L3 l1 x13_1).length c188_0)) (ds := []) #[false, false, false, false, false, false, false, false, false, false] (by kernel_rfl) rfl rfl ⟨((HB.out.cell (World.block_lt_of_cell? w _ hw187_0)).trans hw187_0), ((HB.out.cell (World.block_lt_of_cell? w _ hw188_0)).trans hw188_0)⟩ (fun hHeld => ?_); refine with_tabW virgationref09_EqualMoves.tab6 virgationref09_EqualMoves.bits6 (fun HT_ HW_ => ?_)
                  generalize wr.drew = w12 at HB HR187_0 HR188_0 hx187_0 hx188_0 hHeld ⊢
                  refine pure_ (i := 0) (N := some 16) (v := ?_) (a' := ?_) #[true, false, false, false, false, false, false, false, false, false] rfl rfl (any_of HT_.out (by kernel_rfl)) (fun _ _ _ h => h) (Or.inl ⟨by rfl, ?_⟩) ?_ ?_
                  rotate_left
                  · intro w'
                    go_simp
                    with_reducible rfl
                  rotate_left
                  · simp only [Act.put, List.setIfInBounds_toArray, List.set_cons_zero, List.set_cons_succ, i64_w, i32_w]
                    rfl
                  refine pure_ (i := 1) (N := some 17) (v := ?_) (a' := ?_) #[true, true, false, false, false, false, false, false, false, false] rfl rfl (any_of HT_.out (by kernel_rfl)) (fun _ _ _ h => h) (Or.inl ⟨by rfl, ?_⟩) ?_ ?_
                  rotate_left
                  · intro w'
                    go_simp
                    with_reducible rfl
                  rotate_left
                  · simp only [Act.put, List.setIfInBounds_toArray, List.set_cons_zero, List.set_cons_succ, i64_w, i32_w]
                    rfl
                  refine pure_ (i := 2) (N := some 18) (v := ?_) (a' := ?_) #[true, true, true, false, false, false, false, false, false, false] rfl rfl (any_of HT_.out (by kernel_rfl)) (fun _ _ _ h => h) (Or.inl ⟨by rfl, ?_⟩) ?_ ?_
                  rotate_left
                  · intro w'
                    go_simp
                    with_reducible rfl
                  rotate_left
                  · simp only [Act.put, List.setIfInBounds_toArray, List.set_cons_zero, List.set_cons_succ, i64_w, i32_w]
                    rfl
                  refine pure_ (i := 4) (N := some 20) (v := ?_) (a' := ?_) #[true, true, true, false, true, false, false, false, false, false] rfl rfl (any_of HT_.out (by kernel_rfl)) (fun _ _ _ h => h) (Or.inl ⟨by rfl, ?_⟩) ?_ ?_
                  rotate_left
                  · intro w'
                    go_simp
                    with_reducible rfl
                  rotate_left
                  · simp only [Act.put, List.setIfInBounds_toArray, List.set_cons_zero, List.set_cons_succ, i64_w, i32_w]
                    rfl
                  refine pure_ (i := 5) (N := some 21) (v := ?_) (a' := ?_) #[true, true, true, false, true, true, false, false, false, false] rfl rfl (any_of HT_.out (by kernel_rfl)) (fun _ _ _ h => h) (Or.inl ⟨by rfl, ?_⟩) ?_ ?_
                  rotate_left
                  · intro w'
                    go_simp
                    with_reducible rfl
                  rotate_left
                  · simp only [Act.put, List.setIfInBounds_toArray, List.set_cons_zero, List.set_cons_succ, i64_w, i32_w]
                    rfl
                  refine pure_ (i := 6) (N := some 22) (v := ?_) (a' := ?_) #[true, true, true, false, true, true, true, false, false, false] rfl rfl (any_of HT_.out (by kernel_rfl)) (fun _ _ _ h => h) (Or.inl ⟨by rfl, ?_⟩) ?_ ?_
                  rotate_left
                  · intro w'
                    go_simp
                    with_reducible rfl
                  rotate_left
                  · simp only [Act.put, List.setIfInBounds_toArray, List.set_cons_zero, List.set_cons_succ, i64_w, i32_w]
                    rfl
                  refine take_ (i := 3) (N := some 19) (v := ?_) (a' := ?_) #[true, true, true, true, true, true, true, false, false, false] rfl rfl (take_ofW HT_.out HW_.out (by kernel_rfl)) (fun _ _ _ h => h) (Or.inl ⟨by rfl, ?_⟩) hHeld ?_ ?_
                  rotate_left
                  · rintro w' ⟨s0, s1⟩
                    go_simp
                    with_reducible rfl
                  rotate_left
                  · simp only [Act.put, List.setIfInBounds_toArray, List.set_cons_zero, List.set_cons_succ, i64_w, i32_w]
                    rfl
                  refine take_ (i := 7) (N := some 23) (v := ?_) (a' := ?_) #[true, true, true, true, true, true, true, true, false, false] rfl rfl (take_ofW HT_.out HW_.out (by kernel_rfl)) (fun _ _ _ h => h) (Or.inl ⟨by rfl, ?_⟩) hHeld ?_ ?_
                  rotate_left
                  · rintro w' ⟨s0, s1⟩
                    go_simp
                    with_reducible rfl
                  rotate_left
                  · simp only [Act.put, List.setIfInBounds_toArray, List.set_cons_zero, List.set_cons_succ, i64_w, i32_w]
                    rfl
                  refine one_ (i := 8) (N := some 24) #[true, true, true, true, true, true, true, true, true, false] rfl rfl (one_of HT_.out (by kernel_rfl)) (by decide) (fun K hK => ?_)
                  refine goes_ Try.func70 (by kernel_rfl) rfl #[.slice A187_0 (rd_L3 l0 x13_1).length c187_0, .slice A188_0 (rd_L3 l1 x13_1).length c188_0] (by rfl) rfl rfl (by (try simp only [List.map_toArray, List.map_cons, List.map_nil]); first | done | rfl | (simp only [List.length_drop, List.length_take]; rfl)) ?_
                  with_reducible refine (virgationref09_Compare.calls k1 _ _ (rd_L3 l0 x13_1) _ _ (rd_L3 l1 x13_1) t189 _ ?side1 ?side2 ?side3 ?side4 A8.out).mono ?_
                  (case side1 => repeat (first | exact (Kd.C_below HR187_0.out HB.out) | (with_reducible refine Kd.C_alloc ?_ _) | (with_reducible refine Kd.C_drewN ?_ _) | (with_reducible refine Kd.C_drew ?_)))
                  (case side2 => exact HC187_0.out)
                  (case side3 => repeat (first | exact (Kd.C_below HR188_0.out HB.out) | (with_reducible refine Kd.C_alloc ?_ _) | (with_reducible refine Kd.C_drewN ?_ _) | (with_reducible refine Kd.C_drew ?_)))
                  (case side4 => exact HC188_0.out)
                  rintro e w13 ⟨rfl, hb⟩
                  refine ⟨_, rfl, ?_⟩
                  have n0_ := Aside0.mk (below_step (by repeat (first | (with_reducible first | exact HB.out | apply below_alloc | apply pw_below_drewN | apply below_drew1) | exact HB.out)) hb)
                  clear HB
                  have HB := n0_
                  clear n0_
                  (try clear hb)
                  (try clear hb2)
                  (try clear hk)
                  (try clear hi)
                  refine hK.out _ _ ⟨((HB.out.cell (World.block_lt_of_cell? w _ hw187_0)).trans hw187_0), ((HB.out.cell (World.block_lt_of_cell? w _ hw188_0)).trans hw188_0)⟩ (fun hHeld => ?_)
                  clear hK K
                  refine norm_ (a' := ?_) ?_ ?_
                  rotate_left
                  · show Act.put _ (some 24) _ = _
                    simp only [Act.put, List.setIfInBounds_toArray, List.set_cons_zero, List.set_cons_succ, i64_w, i32_w]
                    rfl
                  refine pure_ (i := 9) (N := some 25) (v := ?_) (a' := ?_) #[true, true, true, true, true, true, true, true, true, true] rfl rfl (any_of HT_.out (by kernel_rfl)) (fun _ _ _ h => h) (Or.inl ⟨by rfl, ?_⟩) ?_ ?_
                  rotate_left
                  · intro w'
                    go_simp
                    with_reducible rfl
                  rotate_left
                  · simp only [Act.put, List.setIfInBounds_toArray, List.set_cons_zero, List.set_cons_succ, i64_w, i32_w]
                    rfl
                  refine done_ (done_of HT_.out (by kernel_rfl)) ?_
                  try go_wp2
                  go_ret
                  exact ⟨by first | rfl | (simp [errW_none, errW_some] <;> rfl) | (simp [*, errW_none, errW_some] <;> rfl), by repeat (first | (with_reducible first | exact HB.out | apply below_alloc | apply pw_below_drewN | apply below_drew1) | exact HB.out)⟩
              · rw [if_neg c7] at H
                exact absurd H (by simp)
            · rw [if_neg c6] at H
              exact absurd H (by simp)
          · rw [if_neg c5] at H
            exact absurd H (by simp)
        · rw [if_neg c4] at H
          have c4b0 : decide (x13_1 < (l0.length : Int)) = false := decide_eq_false c4
          clear c4
          obtain rfl := Option.some.inj H
          go_wp2
          go_ret
          exact ⟨by first | rfl | (simp [errW_none, errW_some] <;> rfl) | (simp [*, errW_none, errW_some] <;> rfl), by repeat (first | (with_reducible first | exact HB.out | apply below_alloc | apply pw_below_drewN | apply below_drew1) | exact HB.out)⟩
  · rw [if_neg c3] at H
    have c3b0 : ((l0.length : Int) == (l1.length : Int)) = false := beq_eq_false_iff_ne.mpr c3
    have c3b1 : ((l0.length : Int) != (l1.length : Int)) = true := bne_iff_ne.mpr c3
    have c3b2 : (l0.length == l1.length) = false := by first | simpa using c3 | (simp at c3 ⊢; omega)
    obtain rfl := Option.some.inj H
    go_enter Try.func61, Try.ntmps61
    go_wp2
    go_ret
    exact ⟨by first | rfl | (simp [errW_none, errW_some] <;> rfl) | (simp [*, errW_none, errW_some] <;> rfl), by repeat (first | (with_reducible first | exact HB.out | apply below_alloc | apply pw_below_drewN | apply below_drew1) | exact HB.out)⟩
end Go.Proofs.Ytmphigeefppfpaa.Q
namespace Go.Proofs.Ytmphigeefppfpaa.Q
open Go.RowKit Go.Proofs.YtmphigeefppfpaaW.PrintWords Go.Proofs.YtmphigeefppfpaaW.PrintLast Go.Proofs.YtmphigeefppfpaaW.PrintMore
attribute [local go_sem] max2_int min2_int max_two min_two max_three min_three max_four min_four
set_option linter.unusedVariables false
set_option linter.unusedSimpArgs false
mutual
def virgationref09_Same.j0 : Nat → Bool → List Int → Int → List (List (List (List (S78)))) → List Int → Int → List (List (List (List (S78)))) → Option (Bool)
  | 0, _, _, _, _, _, _, _ => none
  | k + 1, x38, x191000, x191001, x191002, x192000, x192001, x192002 => if x38 = true then (some false) else (virgationref09_Same.l0 k (x191002.length : Int) 0 x191000 x191001 x191002 x192000 x192001 x192002)
def virgationref09_Same.l0 : Nat → Int → Int → List Int → Int → List (List (List (List (S78)))) → List Int → Int → List (List (List (List (S78)))) → Option (Bool)
  | 0, _, _, _, _, _, _, _, _ => none
  | k + 1, x41, x42, x191000, x191001, x191002, x192000, x192001, x192002 => if x42 < x41 then (virgationref09_Same.l1 k x42 x41 x42 (x191000.length : Int) 0 x191000 x191001 x191002 x192000 x192001 x192002) else (some true)
def virgationref09_Same.l1 : Nat → Int → Int → Int → Int → Int → List Int → Int → List (List (List (List (S78)))) → List Int → Int → List (List (List (List (S78)))) → Option (Bool)
  | 0, _, _, _, _, _, _, _, _, _, _, _ => none
  | k + 1, x5, x41, x42, x47, x48, x191000, x191001, x191002, x192000, x192001, x192002 => if x48 < x47 then (if 0 ≤ x5 then (if x5 < (x191002.length : Int) then (if 0 ≤ x48 then (if x48 < ((rd_L5 x191002 x5).length : Int) then (if x5 < (x192002.length : Int) then (if x48 < ((rd_L5 x192002 x5).length : Int) then ((virgationref09_EqualMoves.f k (rd_L4 (rd_L5 x191002 x5) x48) (rd_L4 (rd_L5 x192002 x5) x48)).bind fun t199 => (if t199 = true then (virgationref09_Same.l1 k x5 x41 x42 x47 (wrap64 (x48 + 1)) x191000 x191001 x191002 x192000 x192001 x192002) else (some false))) else (none)) else (none)) else (none)) else (none)) else (none)) else (none)) else (virgationref09_Same.l0 k x41 (wrap64 (x42 + 1)) x191000 x191001 x191002 x192000 x192001 x192002)
end
def virgationref09_Same.f (k : Nat) (l0_0 : List Int) (a0_1 : Int) (l0_2 : List (List (List (List (S78))))) (l1_0 : List Int) (a1_1 : Int) (l1_2 : List (List (List (List (S78))))) : Option (Bool) := (virgationref09_Is.f k l0_0 a0_1 l0_2).bind fun t192 => (if t192 = true then ((virgationref09_Is.f k l1_0 a1_1 l1_2).bind fun t193 => (if t193 = true then ((virgationref09_SameRanks.f k l0_0 l1_0).bind fun t194 => (if t194 = true then (if a0_1 = a1_1 then (virgationref09_Same.j0 k ((l0_2.length : Int) != (l1_2.length : Int)) l0_0 a0_1 l0_2 l1_0 a1_1 l1_2) else (virgationref09_Same.j0 k true l0_0 a0_1 l0_2 l1_0 a1_1 l1_2)) else (virgationref09_Same.j0 k true l0_0 a0_1 l0_2 l1_0 a1_1 l1_2))) else (virgationref09_Same.j0 k true l0_0 a0_1 l0_2 l1_0 a1_1 l1_2))) else (virgationref09_Same.j0 k true l0_0 a0_1 l0_2 l1_0 a1_1 l1_2))
def virgationref09_Same.T9 : Bool × List (List Nat × List Nat) := (true, [([], []), ([0], [0]), ([], []), ([1, 2], [1, 2]), ([3], [3]), ([], []), ([4, 5], [4, 5]), ([6], [6]), ([], []), ([8], [8]), ([], []), ([9, 10], [9, 10]), ([11], [11]), ([], []), ([12, 13], [12, 13]), ([14], [14]), ([7, 15], [7, 15]), ([16], [16])])
def virgationref09_Same.B9 : List Nat := [0, 1, 0, 7, 15, 0, 63, 127, 0, 256, 0, 1792, 3840, 0, 16128, 32512, 65535, 131071]
theorem virgationref09_Same.tab9 : rtab .any (opsOf Try.f35 9) = virgationref09_Same.T9 := by kernel_rfl
theorem virgationref09_Same.bits9 : waitsOk virgationref09_Same.T9.2 virgationref09_Same.B9 = true := by kernel_rfl
set_option maxHeartbeats 8000000 in
set_option maxRecDepth 100000 in
theorem virgationref09_Same.calls (k : Nat) (A0_0 : Option Addr) (c0_0 : Nat) (l0_0 : List Int) (a0_1 : Int) (A0_2 : Option Addr) (c0_2 : Nat) (l0_2 : List (List (List (List (S78))))) (A1_0 : Option Addr) (c1_0 : Nat) (l1_0 : List Int) (a1_1 : Int) (A1_2 : Option Addr) (c1_2 : Nat) (l1_2 : List (List (List (List (S78))))) (r : Bool) (w : World) (hr0_0 : Kd.C (Kd.int .i64) w A0_0 l0_0.length l0_0) (hc0_0 : l0_0.length ≤ c0_0) (hr0_2 : Kd.C (Kd.slice 79 (Kd.slice 76 (Kd.slice 78 k78))) w A0_2 l0_2.length l0_2) (hc0_2 : l0_2.length ≤ c0_2) (hr1_0 : Kd.C (Kd.int .i64) w A1_0 l1_0.length l1_0) (hc1_0 : l1_0.length ≤ c1_0) (hr1_2 : Kd.C (Kd.slice 79 (Kd.slice 76 (Kd.slice 78 k78))) w A1_2 l1_2.length l1_2) (hc1_2 : l1_2.length ≤ c1_2) (h : virgationref09_Same.f k l0_0 a0_1 l0_2 l1_0 a1_1 l1_2 = some r) :
    Calls Try.prog 35 #[.agg #[.slice A0_0 l0_0.length c0_0, .int .i64 a0_1, .slice A0_2 l0_2.length c0_2], .agg #[.slice A1_0 l1_0.length c1_0, .int .i64 a1_1, .slice A1_2 l1_2.length c1_2]] w fun e w' => e = .returned (.bool r) ∧ Below w.heap.size w w' := by
  have hu44 := Try.underlying44
  have HR0_0 := Aside0.mk hr0_0
  have HC0_0 := Aside0.mk hc0_0
  clear hr0_0 hc0_0
  have HR0_2 := Aside0.mk hr0_2
  have HC0_2 := Aside0.mk hc0_2
  clear hr0_2 hc0_2
  have HR1_0 := Aside0.mk hr1_0
  have HC1_0 := Aside0.mk hc1_0
  clear hr1_0 hc1_0
  have HR1_2 := Aside0.mk hr1_2
  have HC1_2 := Aside0.mk hc1_2
  clear hr1_2 hc1_2
  have HB := Aside0.mk (Below.refl w.heap.size w)
  have H : ((virgationref09_Is.f k l0_0 a0_1 l0_2).bind fun t192 => (if t192 = true then ((virgationref09_Is.f k l1_0 a1_1 l1_2).bind fun t193 => (if t193 = true then ((virgationref09_SameRanks.f k l0_0 l1_0).bind fun t194 => (if t194 = true then (if a0_1 = a1_1 then (virgationref09_Same.j0 k ((l0_2.length : Int) != (l1_2.length : Int)) l0_0 a0_1 l0_2 l1_0 a1_1 l1_2) else (virgationref09_Same.j0 k true l0_0 a0_1 l0_2 l1_0 a1_1 l1_2)) else (virgationref09_Same.j0 k true l0_0 a0_1 l0_2 l1_0 a1_1 l1_2))) else (virgationref09_Same.j0 k true l0_0 a0_1 l0_2 l1_0 a1_1 l1_2))) else (virgationref09_Same.j0 k true l0_0 a0_1 l0_2 l1_0 a1_1 l1_2))) = some r := h
  clear h
  have HC3 := Aside0.mk H
  clear H
  go_enter Try.func35, Try.ntmps35
  go_upto_region 1 with (first | ((with_reducible refine gate_dst (N := 2) rfl ?_); (try (refine gate_guard (by rfl) ?_; dsimp only)); refine box_event ?hg (N := 2) ?hd (cs := #[.slice A0_0 l0_0.length c0_0, .int .i64 a0_1, .slice A0_2 l0_2.length c0_2]) (t := 44) ?hr ?_; (case hd => rfl); (case hg => rfl); (case hr => first | (go_simp; done) | (go_simp; rfl)); intro gb190 hg w4 hbox hb; have n0_ := Aside0.mk (below_step (by repeat (first | (with_reducible first | exact HB.out | apply below_alloc | apply pw_below_drewN | apply below_drew1) | exact HB.out)) hb); have n1_ := Aside0.mk (hbox); have n2_ := Aside0.mk ((by rw [hg]; exact (below_size (by repeat (first | (with_reducible first | exact HB.out | apply below_alloc | apply pw_below_drewN | apply below_drew1) | exact HB.out))) : w.heap.size ≤ gb190)); have n3_ := Aside0.mk ((by rw [hg]; exact (below_size (by repeat (first | (with_reducible first | exact HB.out | apply below_alloc | apply pw_below_drewN | apply below_drew1) | exact HB.out))) : w.heap.size ≤ gb190)); clear HB; have HB := n0_; have BK190 := n1_; have GW190 := n2_; have GE190 := n3_; clear n0_ n1_ n2_ n3_; clear hb hbox hg) | ((with_reducible refine gate_dst (N := 3) rfl ?_); (try (refine gate_guard (by rfl) ?_; dsimp only)); refine box_event ?hg (N := 3) ?hd (cs := #[.slice A1_0 l1_0.length c1_0, .int .i64 a1_1, .slice A1_2 l1_2.length c1_2]) (t := 44) ?hr ?_; (case hd => rfl); (case hg => rfl); (case hr => first | (go_simp; done) | (go_simp; rfl)); intro gb191 hg w5 hbox hb; have n0_ := Aside0.mk (blk_below (g := gb190) (o := .cells #[.slice A0_0 l0_0.length c0_0, .int .i64 a0_1, .slice A0_2 l0_2.length c0_2] 44 (0, 0)) (by (with_reducible repeat (first | refine blk_drewN ?_ _ | refine blk_drew ?_ | refine blk_alloc ?_ _)); exact BK190.out) hb); have n1_ := Aside0.mk (below_step (by repeat (first | (with_reducible first | exact HB.out | apply below_alloc | apply pw_below_drewN | apply below_drew1 | refine below_set ?_ GE190.out) | exact HB.out)) hb); have n2_ := Aside0.mk (hbox); have n3_ := Aside0.mk ((by rw [hg]; exact (below_size (by repeat (first | (with_reducible first | exact HB.out | apply below_alloc | apply pw_below_drewN | apply below_drew1 | refine below_set ?_ GE190.out) | exact HB.out))) : w.heap.size ≤ gb191)); have n4_ := Aside0.mk ((by rw [hg]; exact (below_size (by repeat (first | (with_reducible first | exact HB.out | apply below_alloc | apply pw_below_drewN | apply below_drew1 | refine below_set ?_ GE190.out) | exact HB.out))) : w.heap.size ≤ gb191)); have n5_ := Aside0.mk ((by rw [hg]; exact Nat.ne_of_lt (blk_lt (g := gb190) (o := .cells #[.slice A0_0 l0_0.length c0_0, .int .i64 a0_1, .slice A0_2 l0_2.length c0_2] 44 (0, 0)) (by (with_reducible repeat (first | refine blk_drewN ?_ _ | refine blk_drew ?_ | refine blk_alloc ?_ _)); exact BK190.out)) : gb190 ≠ gb191)); have n6_ := Aside0.mk ((by rw [hg]; exact Nat.ne_of_gt (blk_lt (g := gb190) (o := .cells #[.slice A0_0 l0_0.length c0_0, .int .i64 a0_1, .slice A0_2 l0_2.length c0_2] 44 (0, 0)) (by (with_reducible repeat (first | refine blk_drewN ?_ _ | refine blk_drew ?_ | refine blk_alloc ?_ _)); exact BK190.out)) : gb191 ≠ gb190)); clear BK190; clear HB; have BK190 := n0_; have HB := n1_; have BK191 := n2_; have GW191 := n3_; have GE191 := n4_; have NB190_191 := n5_; have NB191_190 := n6_; clear n0_ n1_ n2_ n3_ n4_ n5_ n6_; clear hb hbox hg))
  (try simp only [Act.put, List.setIfInBounds_toArray, List.set_cons_zero, List.set_cons_succ])
  go_cut [38] (fun v38 wc => ∃ (kq : Nat) (x38_2 : Bool), v38 = .bool x38_2 ∧ Aside0 (virgationref09_Same.j0 kq x38_2 l0_0 a0_1 l0_2 l1_0 a1_1 l1_2 = some r) ∧ Aside0 (kq ≤ k) ∧ Aside0 (wc.heap[gb190]? = some (.cells #[(.slice A0_0 l0_0.length c0_0), .int .i64 a0_1, (.slice A0_2 l0_2.length c0_2)] 44 (0, 0))) ∧ Aside0 (wc.heap[gb191]? = some (.cells #[(.slice A1_0 l1_0.length c1_0), .int .i64 a1_1, (.slice A1_2 l1_2.length c1_2)] 44 (0, 0))) ∧ Aside0 (Below w.heap.size w wc))
  case first =>
    have H := HC3.out
    clear HC3
    replace H := Option.bind_eq_some_iff.mp H
    obtain ⟨t192, A60, H⟩ := H
    replace H : (if t192 = true then ((virgationref09_Is.f k l1_0 a1_1 l1_2).bind fun t193 => (if t193 = true then ((virgationref09_SameRanks.f k l0_0 l1_0).bind fun t194 => (if t194 = true then (if a0_1 = a1_1 then (virgationref09_Same.j0 k ((l0_2.length : Int) != (l1_2.length : Int)) l0_0 a0_1 l0_2 l1_0 a1_1 l1_2) else (virgationref09_Same.j0 k true l0_0 a0_1 l0_2 l1_0 a1_1 l1_2)) else (virgationref09_Same.j0 k true l0_0 a0_1 l0_2 l1_0 a1_1 l1_2))) else (virgationref09_Same.j0 k true l0_0 a0_1 l0_2 l1_0 a1_1 l1_2))) else (virgationref09_Same.j0 k true l0_0 a0_1 l0_2 l1_0 a1_1 l1_2)) = some r := H
    have A6 := Aside0.mk A60
    clear A60
    by_cases c7 : t192 = true
    · subst c7
      have H1 : ((virgationref09_Is.f k l1_0 a1_1 l1_2).bind fun t193 => (if t193 = true then ((virgationref09_SameRanks.f k l0_0 l1_0).bind fun t194 => (if t194 = true then (if a0_1 = a1_1 then (virgationref09_Same.j0 k ((l0_2.length : Int) != (l1_2.length : Int)) l0_0 a0_1 l0_2 l1_0 a1_1 l1_2) else (virgationref09_Same.j0 k true l0_0 a0_1 l0_2 l1_0 a1_1 l1_2)) else (virgationref09_Same.j0 k true l0_0 a0_1 l0_2 l1_0 a1_1 l1_2))) else (virgationref09_Same.j0 k true l0_0 a0_1 l0_2 l1_0 a1_1 l1_2))) = some r := by rw [if_pos rfl] at H; exact H
      clear H
      have H := H1
      clear H1
      replace H := Option.bind_eq_some_iff.mp H
      obtain ⟨t193, A80, H⟩ := H
      replace H : (if t193 = true then ((virgationref09_SameRanks.f k l0_0 l1_0).bind fun t194 => (if t194 = true then (if a0_1 = a1_1 then (virgationref09_Same.j0 k ((l0_2.length : Int) != (l1_2.length : Int)) l0_0 a0_1 l0_2 l1_0 a1_1 l1_2) else (virgationref09_Same.j0 k true l0_0 a0_1 l0_2 l1_0 a1_1 l1_2)) else (virgationref09_Same.j0 k true l0_0 a0_1 l0_2 l1_0 a1_1 l1_2))) else (virgationref09_Same.j0 k true l0_0 a0_1 l0_2 l1_0 a1_1 l1_2)) = some r := H
      have A8 := Aside0.mk A80
      clear A80
      by_cases c9 : t193 = true
      · subst c9
        have H1 : ((virgationref09_SameRanks.f k l0_0 l1_0).bind fun t194 => (if t194 = true then (if a0_1 = a1_1 then (virgationref09_Same.j0 k ((l0_2.length : Int) != (l1_2.length : Int)) l0_0 a0_1 l0_2 l1_0 a1_1 l1_2) else (virgationref09_Same.j0 k true l0_0 a0_1 l0_2 l1_0 a1_1 l1_2)) else (virgationref09_Same.j0 k true l0_0 a0_1 l0_2 l1_0 a1_1 l1_2))) = some r := by rw [if_pos rfl] at H; exact H
        clear H
        have H := H1
        clear H1
        replace H := Option.bind_eq_some_iff.mp H
        obtain ⟨t194, A100, H⟩ := H
        replace H : (if t194 = true then (if a0_1 = a1_1 then (virgationref09_Same.j0 k ((l0_2.length : Int) != (l1_2.length : Int)) l0_0 a0_1 l0_2 l1_0 a1_1 l1_2) else (virgationref09_Same.j0 k true l0_0 a0_1 l0_2 l1_0 a1_1 l1_2)) else (virgationref09_Same.j0 k true l0_0 a0_1 l0_2 l1_0 a1_1 l1_2)) = some r := H
        have A10 := Aside0.mk A100
        clear A100
        by_cases c11 : t194 = true
        · subst c11
          have H1 : (if a0_1 = a1_1 then (virgationref09_Same.j0 k ((l0_2.length : Int) != (l1_2.length : Int)) l0_0 a0_1 l0_2 l1_0 a1_1 l1_2) else (virgationref09_Same.j0 k true l0_0 a0_1 l0_2 l1_0 a1_1 l1_2)) = some r := by rw [if_pos rfl] at H; exact H
          clear H
          have H := H1
          clear H1
          by_cases c12 : a0_1 = a1_1
          · rw [if_pos c12] at H
            have c12b0 : (a0_1 == a1_1) = true := beq_iff_eq.mpr c12
            have c12b1 : (a0_1 != a1_1) = false := bne_eq_false_iff_eq.mpr c12
            clear c12
            (first | rw [c12b0] | (simp only [i64_w, i32_w]; rw [c12b0]) | skip)
            have H' := Aside0.mk H
            clear H
            have hnb13 := NB190_191.out
            have hnc13 := NB191_190.out
            have hcz14_0 : w5.cell? ⟨gb190, 0, none⟩ = some (.slice A0_0 l0_0.length c0_0) := (blk_cell BK190.out 0).trans rfl
            have hcz14_1 : w5.cell? ⟨gb190, 1, none⟩ = some (.int .i64 a0_1) := (blk_cell BK190.out 1).trans rfl
            have hcz14_2 : w5.cell? ⟨gb190, 2, none⟩ = some (.slice A0_2 l0_2.length c0_2) := (blk_cell BK190.out 2).trans rfl
            have hfz14_0 := blk_frozen BK190.out 0
            have hfz14_1 := blk_frozen BK190.out 1
            have hfz14_2 := blk_frozen BK190.out 2
            go_wp2_with (first | ((with_reducible refine gate_callee (f := 59) rfl ?_); refine goesL_ (some 8) rfl rfl Try.func59 (by kernel_rfl) rfl #[.agg #[.slice A0_0 l0_0.length c0_0, .int .i64 a0_1, .slice A0_2 l0_2.length c0_2]] rfl (by (try simp only [List.map_toArray, List.map_cons, List.map_nil]); first | done | rfl | (simp only [List.length_drop, List.length_take]; rfl)) ?_; (with_reducible refine (virgationref09_Is.calls k _ _ l0_0 a0_1 _ _ l0_2 true _ ?side1 ?side2 ?side3 ?side4 A6.out).mono ?_); (case side1 => repeat (first | exact (Kd.C_below HR0_0.out HB.out) | (with_reducible refine Kd.C_alloc ?_ _) | (with_reducible refine Kd.C_drewN ?_ _) | (with_reducible refine Kd.C_drew ?_))); (case side2 => exact HC0_0.out); (case side3 => repeat (first | exact (Kd.C_below HR0_2.out HB.out) | (with_reducible refine Kd.C_alloc ?_ _) | (with_reducible refine Kd.C_drewN ?_ _) | (with_reducible refine Kd.C_drew ?_))); (case side4 => exact HC0_2.out); rintro e w15 ⟨rfl, hb⟩; refine ⟨_, rfl, ?_⟩; have n0_ := Aside0.mk (blk_below (g := gb190) (o := .cells #[.slice A0_0 l0_0.length c0_0, .int .i64 a0_1, .slice A0_2 l0_2.length c0_2] 44 (0, 0)) (by (with_reducible repeat (first | refine blk_drewN ?_ _ | refine blk_drew ?_ | refine blk_alloc ?_ _)); exact BK190.out) hb); have n1_ := Aside0.mk (blk_below (g := gb191) (o := .cells #[.slice A1_0 l1_0.length c1_0, .int .i64 a1_1, .slice A1_2 l1_2.length c1_2] 44 (0, 0)) (by (with_reducible repeat (first | refine blk_drewN ?_ _ | refine blk_drew ?_ | refine blk_alloc ?_ _)); exact BK191.out) hb); have n2_ := Aside0.mk (below_step (by repeat (first | (with_reducible first | exact HB.out | apply below_alloc | apply pw_below_drewN | apply below_drew1 | refine below_set ?_ GE190.out | refine below_set ?_ GE191.out) | exact HB.out)) hb); clear BK190; clear BK191; clear HB; have BK190 := n0_; have BK191 := n1_; have HB := n2_; clear n0_ n1_ n2_; (try clear hb); (try clear hb2); (try clear hk); (try clear hi); have hcz16_0 : w15.cell? ⟨gb191, 0, none⟩ = some (.slice A1_0 l1_0.length c1_0) := (blk_cell BK191.out 0).trans rfl; have hcz16_1 : w15.cell? ⟨gb191, 1, none⟩ = some (.int .i64 a1_1) := (blk_cell BK191.out 1).trans rfl; have hcz16_2 : w15.cell? ⟨gb191, 2, none⟩ = some (.slice A1_2 l1_2.length c1_2) := (blk_cell BK191.out 2).trans rfl; have hfz16_0 := blk_frozen BK191.out 0; have hfz16_1 := blk_frozen BK191.out 1; have hfz16_2 := blk_frozen BK191.out 2) | (go_at_call 59; (with_reducible refine (virgationref09_Is.calls k _ _ l1_0 a1_1 _ _ l1_2 true _ ?side1 ?side2 ?side3 ?side4 A8.out).mono ?_); (case side1 => repeat (first | exact (Kd.C_below HR1_0.out HB.out) | (with_reducible refine Kd.C_alloc ?_ _) | (with_reducible refine Kd.C_drewN ?_ _) | (with_reducible refine Kd.C_drew ?_))); (case side2 => exact HC1_0.out); (case side3 => repeat (first | exact (Kd.C_below HR1_2.out HB.out) | (with_reducible refine Kd.C_alloc ?_ _) | (with_reducible refine Kd.C_drewN ?_ _) | (with_reducible refine Kd.C_drew ?_))); (case side4 => exact HC1_2.out); rintro e w17 ⟨rfl, hb⟩; have n0_ := Aside0.mk (blk_below (g := gb190) (o := .cells #[.slice A0_0 l0_0.length c0_0, .int .i64 a0_1, .slice A0_2 l0_2.length c0_2] 44 (0, 0)) (by (with_reducible repeat (first | refine blk_drewN ?_ _ | refine blk_drew ?_ | refine blk_alloc ?_ _)); exact BK190.out) hb); have n1_ := Aside0.mk (blk_below (g := gb191) (o := .cells #[.slice A1_0 l1_0.length c1_0, .int .i64 a1_1, .slice A1_2 l1_2.length c1_2] 44 (0, 0)) (by (with_reducible repeat (first | refine blk_drewN ?_ _ | refine blk_drew ?_ | refine blk_alloc ?_ _)); exact BK191.out) hb); have n2_ := Aside0.mk (below_step (by repeat (first | (with_reducible first | exact HB.out | apply below_alloc | apply pw_below_drewN | apply below_drew1 | refine below_set ?_ GE190.out | refine below_set ?_ GE191.out) | exact HB.out)) hb); clear BK190; clear BK191; clear HB; have BK190 := n0_; have BK191 := n1_; have HB := n2_; clear n0_ n1_ n2_; (try clear hb); (try clear hb2); (try clear hk); (try clear hi); have hcz18_0 : w17.cell? ⟨gb190, 0, none⟩ = some (.slice A0_0 l0_0.length c0_0) := (blk_cell BK190.out 0).trans rfl; have hcz18_1 : w17.cell? ⟨gb190, 1, none⟩ = some (.int .i64 a0_1) := (blk_cell BK190.out 1).trans rfl; have hcz18_2 : w17.cell? ⟨gb190, 2, none⟩ = some (.slice A0_2 l0_2.length c0_2) := (blk_cell BK190.out 2).trans rfl; have hfz18_0 := blk_frozen BK190.out 0; have hfz18_1 := blk_frozen BK190.out 1; have hfz18_2 := blk_frozen BK190.out 2; have hcz19_0 : w17.cell? ⟨gb191, 0, none⟩ = some (.slice A1_0 l1_0.length c1_0) := (blk_cell BK191.out 0).trans rfl; have hcz19_1 : w17.cell? ⟨gb191, 1, none⟩ = some (.int .i64 a1_1) := (blk_cell BK191.out 1).trans rfl; have hcz19_2 : w17.cell? ⟨gb191, 2, none⟩ = some (.slice A1_2 l1_2.length c1_2) := (blk_cell BK191.out 2).trans rfl; have hfz19_0 := blk_frozen BK191.out 0; have hfz19_1 := blk_frozen BK191.out 1; have hfz19_2 := blk_frozen BK191.out 2) | (go_at_call 60; (with_reducible refine (virgationref09_SameRanks.calls k _ _ l0_0 _ _ l1_0 true _ ?side1 ?side2 ?side3 ?side4 A10.out).mono ?_); (case side1 => repeat (first | exact (Kd.C_below HR0_0.out HB.out) | (with_reducible refine Kd.C_alloc ?_ _) | (with_reducible refine Kd.C_drewN ?_ _) | (with_reducible refine Kd.C_drew ?_))); (case side2 => exact HC0_0.out); (case side3 => repeat (first | exact (Kd.C_below HR1_0.out HB.out) | (with_reducible refine Kd.C_alloc ?_ _) | (with_reducible refine Kd.C_drewN ?_ _) | (with_reducible refine Kd.C_drew ?_))); (case side4 => exact HC1_0.out); rintro e w' ⟨rfl, ⟨nd, rfl⟩⟩))
            go_meet
            case rel => exact ⟨_, (((l0_2.length : Int) != (l1_2.length : Int))), (by first | rfl | (simp; done) | (simp [*]; done)), H', ⟨by first | omega | exact Nat.le_refl _⟩, ⟨by (with_reducible repeat (first | refine blk_drewN ?_ _ | refine blk_drew ?_ | refine blk_alloc ?_ _)); exact BK190.out⟩, ⟨by (with_reducible repeat (first | refine blk_drewN ?_ _ | refine blk_drew ?_ | refine blk_alloc ?_ _)); exact BK191.out⟩, ⟨by repeat (first | (with_reducible first | exact HB.out | apply below_alloc | apply pw_below_drewN | apply below_drew1 | refine below_set ?_ GE190.out | refine below_set ?_ GE191.out) | exact HB.out)⟩⟩
          · rw [if_neg c12] at H
            have c12b0 : (a0_1 == a1_1) = false := beq_eq_false_iff_ne.mpr c12
            have c12b1 : (a0_1 != a1_1) = true := bne_iff_ne.mpr c12
            (first | rw [c12b0] | (simp only [i64_w, i32_w]; rw [c12b0]) | skip)
            have H' := Aside0.mk H
            clear H
            have hnb20 := NB190_191.out
            have hnc20 := NB191_190.out
            have hcz21_0 : w5.cell? ⟨gb190, 0, none⟩ = some (.slice A0_0 l0_0.length c0_0) := (blk_cell BK190.out 0).trans rfl
            have hcz21_1 : w5.cell? ⟨gb190, 1, none⟩ = some (.int .i64 a0_1) := (blk_cell BK190.out 1).trans rfl
            have hcz21_2 : w5.cell? ⟨gb190, 2, none⟩ = some (.slice A0_2 l0_2.length c0_2) := (blk_cell BK190.out 2).trans rfl
            have hfz21_0 := blk_frozen BK190.out 0
            have hfz21_1 := blk_frozen BK190.out 1
            have hfz21_2 := blk_frozen BK190.out 2
            go_wp2_with (first | ((with_reducible refine gate_callee (f := 59) rfl ?_); refine goesL_ (some 8) rfl rfl Try.func59 (by kernel_rfl) rfl #[.agg #[.slice A0_0 l0_0.length c0_0, .int .i64 a0_1, .slice A0_2 l0_2.length c0_2]] rfl (by (try simp only [List.map_toArray, List.map_cons, List.map_nil]); first | done | rfl | (simp only [List.length_drop, List.length_take]; rfl)) ?_; (with_reducible refine (virgationref09_Is.calls k _ _ l0_0 a0_1 _ _ l0_2 true _ ?side1 ?side2 ?side3 ?side4 A6.out).mono ?_); (case side1 => repeat (first | exact (Kd.C_below HR0_0.out HB.out) | (with_reducible refine Kd.C_alloc ?_ _) | (with_reducible refine Kd.C_drewN ?_ _) | (with_reducible refine Kd.C_drew ?_))); (case side2 => exact HC0_0.out); (case side3 => repeat (first | exact (Kd.C_below HR0_2.out HB.out) | (with_reducible refine Kd.C_alloc ?_ _) | (with_reducible refine Kd.C_drewN ?_ _) | (with_reducible refine Kd.C_drew ?_))); (case side4 => exact HC0_2.out); rintro e w22 ⟨rfl, hb⟩; refine ⟨_, rfl, ?_⟩; have n0_ := Aside0.mk (blk_below (g := gb190) (o := .cells #[.slice A0_0 l0_0.length c0_0, .int .i64 a0_1, .slice A0_2 l0_2.length c0_2] 44 (0, 0)) (by (with_reducible repeat (first | refine blk_drewN ?_ _ | refine blk_drew ?_ | refine blk_alloc ?_ _)); exact BK190.out) hb); have n1_ := Aside0.mk (blk_below (g := gb191) (o := .cells #[.slice A1_0 l1_0.length c1_0, .int .i64 a1_1, .slice A1_2 l1_2.length c1_2] 44 (0, 0)) (by (with_reducible repeat (first | refine blk_drewN ?_ _ | refine blk_drew ?_ | refine blk_alloc ?_ _)); exact BK191.out) hb); have n2_ := Aside0.mk (below_step (by repeat (first | (with_reducible first | exact HB.out | apply below_alloc | apply pw_below_drewN | apply below_drew1 | refine below_set ?_ GE190.out | refine below_set ?_ GE191.out) | exact HB.out)) hb); clear BK190; clear BK191; clear HB; have BK190 := n0_; have BK191 := n1_; have HB := n2_; clear n0_ n1_ n2_; (try clear hb); (try clear hb2); (try clear hk); (try clear hi); have hcz23_0 : w22.cell? ⟨gb191, 0, none⟩ = some (.slice A1_0 l1_0.length c1_0) := (blk_cell BK191.out 0).trans rfl; have hcz23_1 : w22.cell? ⟨gb191, 1, none⟩ = some (.int .i64 a1_1) := (blk_cell BK191.out 1).trans rfl; have hcz23_2 : w22.cell? ⟨gb191, 2, none⟩ = some (.slice A1_2 l1_2.length c1_2) := (blk_cell BK191.out 2).trans rfl; have hfz23_0 := blk_frozen BK191.out 0; have hfz23_1 := blk_frozen BK191.out 1; have hfz23_2 := blk_frozen BK191.out 2) | (go_at_call 59; (with_reducible refine (virgationref09_Is.calls k _ _ l1_0 a1_1 _ _ l1_2 true _ ?side1 ?side2 ?side3 ?side4 A8.out).mono ?_); (case side1 => repeat (first | exact (Kd.C_below HR1_0.out HB.out) | (with_reducible refine Kd.C_alloc ?_ _) | (with_reducible refine Kd.C_drewN ?_ _) | (with_reducible refine Kd.C_drew ?_))); (case side2 => exact HC1_0.out); (case side3 => repeat (first | exact (Kd.C_below HR1_2.out HB.out) | (with_reducible refine Kd.C_alloc ?_ _) | (with_reducible refine Kd.C_drewN ?_ _) | (with_reducible refine Kd.C_drew ?_))); (case side4 => exact HC1_2.out); rintro e w24 ⟨rfl, hb⟩; have n0_ := Aside0.mk (blk_below (g := gb190) (o := .cells #[.slice A0_0 l0_0.length c0_0, .int .i64 a0_1, .slice A0_2 l0_2.length c0_2] 44 (0, 0)) (by (with_reducible repeat (first | refine blk_drewN ?_ _ | refine blk_drew ?_ | refine blk_alloc ?_ _)); exact BK190.out) hb); have n1_ := Aside0.mk (blk_below (g := gb191) (o := .cells #[.slice A1_0 l1_0.length c1_0, .int .i64 a1_1, .slice A1_2 l1_2.length c1_2] 44 (0, 0)) (by (with_reducible repeat (first | refine blk_drewN ?_ _ | refine blk_drew ?_ | refine blk_alloc ?_ _)); exact BK191.out) hb); have n2_ := Aside0.mk (below_step (by repeat (first | (with_reducible first | exact HB.out | apply below_alloc | apply pw_below_drewN | apply below_drew1 | refine below_set ?_ GE190.out | refine below_set ?_ GE191.out) | exact HB.out)) hb); clear BK190; clear BK191; clear HB; have BK190 := n0_; have BK191 := n1_; have HB := n2_; clear n0_ n1_ n2_; (try clear hb); (try clear hb2); (try clear hk); (try clear hi); have hcz25_0 : w24.cell? ⟨gb190, 0, none⟩ = some (.slice A0_0 l0_0.length c0_0) := (blk_cell BK190.out 0).trans rfl; have hcz25_1 : w24.cell? ⟨gb190, 1, none⟩ = some (.int .i64 a0_1) := (blk_cell BK190.out 1).trans rfl; have hcz25_2 : w24.cell? ⟨gb190, 2, none⟩ = some (.slice A0_2 l0_2.length c0_2) := (blk_cell BK190.out 2).trans rfl; have hfz25_0 := blk_frozen BK190.out 0; have hfz25_1 := blk_frozen BK190.out 1; have hfz25_2 := blk_frozen BK190.out 2; have hcz26_0 : w24.cell? ⟨gb191, 0, none⟩ = some (.slice A1_0 l1_0.length c1_0) := (blk_cell BK191.out 0).trans rfl; have hcz26_1 : w24.cell? ⟨gb191, 1, none⟩ = some (.int .i64 a1_1) := (blk_cell BK191.out 1).trans rfl; have hcz26_2 : w24.cell? ⟨gb191, 2, none⟩ = some (.slice A1_2 l1_2.length c1_2) := (blk_cell BK191.out 2).trans rfl; have hfz26_0 := blk_frozen BK191.out 0; have hfz26_1 := blk_frozen BK191.out 1; have hfz26_2 := blk_frozen BK191.out 2) | (go_at_call 60; (with_reducible refine (virgationref09_SameRanks.calls k _ _ l0_0 _ _ l1_0 true _ ?side1 ?side2 ?side3 ?side4 A10.out).mono ?_); (case side1 => repeat (first | exact (Kd.C_below HR0_0.out HB.out) | (with_reducible refine Kd.C_alloc ?_ _) | (with_reducible refine Kd.C_drewN ?_ _) | (with_reducible refine Kd.C_drew ?_))); (case side2 => exact HC0_0.out); (case side3 => repeat (first | exact (Kd.C_below HR1_0.out HB.out) | (with_reducible refine Kd.C_alloc ?_ _) | (with_reducible refine Kd.C_drewN ?_ _) | (with_reducible refine Kd.C_drew ?_))); (case side4 => exact HC1_0.out); rintro e w' ⟨rfl, ⟨nd, rfl⟩⟩))
            go_meet
            case rel => exact ⟨_, (true), (by first | rfl | (simp; done) | (simp [*]; done)), H', ⟨by first | omega | exact Nat.le_refl _⟩, ⟨by (with_reducible repeat (first | refine blk_drewN ?_ _ | refine blk_drew ?_ | refine blk_alloc ?_ _)); exact BK190.out⟩, ⟨by (with_reducible repeat (first | refine blk_drewN ?_ _ | refine blk_drew ?_ | refine blk_alloc ?_ _)); exact BK191.out⟩, ⟨by repeat (first | (with_reducible first | exact HB.out | apply below_alloc | apply pw_below_drewN | apply below_drew1 | refine below_set ?_ GE190.out | refine below_set ?_ GE191.out) | exact HB.out)⟩⟩
        · replace c11 := Bool.eq_false_iff.mpr c11
          subst c11
          have H1 : (virgationref09_Same.j0 k true l0_0 a0_1 l0_2 l1_0 a1_1 l1_2) = some r := by rw [if_neg (show ¬ (false = true) by decide)] at H; exact H
          clear H
          have H := H1
          clear H1
          have H' := Aside0.mk H
          clear H
          have hnb27 := NB190_191.out
          have hnc27 := NB191_190.out
          have hcz28_0 : w5.cell? ⟨gb190, 0, none⟩ = some (.slice A0_0 l0_0.length c0_0) := (blk_cell BK190.out 0).trans rfl
          have hcz28_1 : w5.cell? ⟨gb190, 1, none⟩ = some (.int .i64 a0_1) := (blk_cell BK190.out 1).trans rfl
          have hcz28_2 : w5.cell? ⟨gb190, 2, none⟩ = some (.slice A0_2 l0_2.length c0_2) := (blk_cell BK190.out 2).trans rfl
          have hfz28_0 := blk_frozen BK190.out 0
          have hfz28_1 := blk_frozen BK190.out 1
          have hfz28_2 := blk_frozen BK190.out 2
          go_wp2_with (first | ((with_reducible refine gate_callee (f := 59) rfl ?_); refine goesL_ (some 8) rfl rfl Try.func59 (by kernel_rfl) rfl #[.agg #[.slice A0_0 l0_0.length c0_0, .int .i64 a0_1, .slice A0_2 l0_2.length c0_2]] rfl (by (try simp only [List.map_toArray, List.map_cons, List.map_nil]); first | done | rfl | (simp only [List.length_drop, List.length_take]; rfl)) ?_; (with_reducible refine (virgationref09_Is.calls k _ _ l0_0 a0_1 _ _ l0_2 true _ ?side1 ?side2 ?side3 ?side4 A6.out).mono ?_); (case side1 => repeat (first | exact (Kd.C_below HR0_0.out HB.out) | (with_reducible refine Kd.C_alloc ?_ _) | (with_reducible refine Kd.C_drewN ?_ _) | (with_reducible refine Kd.C_drew ?_))); (case side2 => exact HC0_0.out); (case side3 => repeat (first | exact (Kd.C_below HR0_2.out HB.out) | (with_reducible refine Kd.C_alloc ?_ _) | (with_reducible refine Kd.C_drewN ?_ _) | (with_reducible refine Kd.C_drew ?_))); (case side4 => exact HC0_2.out); rintro e w29 ⟨rfl, hb⟩; refine ⟨_, rfl, ?_⟩; have n0_ := Aside0.mk (blk_below (g := gb190) (o := .cells #[.slice A0_0 l0_0.length c0_0, .int .i64 a0_1, .slice A0_2 l0_2.length c0_2] 44 (0, 0)) (by (with_reducible repeat (first | refine blk_drewN ?_ _ | refine blk_drew ?_ | refine blk_alloc ?_ _)); exact BK190.out) hb); have n1_ := Aside0.mk (blk_below (g := gb191) (o := .cells #[.slice A1_0 l1_0.length c1_0, .int .i64 a1_1, .slice A1_2 l1_2.length c1_2] 44 (0, 0)) (by (with_reducible repeat (first | refine blk_drewN ?_ _ | refine blk_drew ?_ | refine blk_alloc ?_ _)); exact BK191.out) hb); have n2_ := Aside0.mk (below_step (by repeat (first | (with_reducible first | exact HB.out | apply below_alloc | apply pw_below_drewN | apply below_drew1 | refine below_set ?_ GE190.out | refine below_set ?_ GE191.out) | exact HB.out)) hb); clear BK190; clear BK191; clear HB; have BK190 := n0_; have BK191 := n1_; have HB := n2_; clear n0_ n1_ n2_; (try clear hb); (try clear hb2); (try clear hk); (try clear hi); have hcz30_0 : w29.cell? ⟨gb191, 0, none⟩ = some (.slice A1_0 l1_0.length c1_0) := (blk_cell BK191.out 0).trans rfl; have hcz30_1 : w29.cell? ⟨gb191, 1, none⟩ = some (.int .i64 a1_1) := (blk_cell BK191.out 1).trans rfl; have hcz30_2 : w29.cell? ⟨gb191, 2, none⟩ = some (.slice A1_2 l1_2.length c1_2) := (blk_cell BK191.out 2).trans rfl; have hfz30_0 := blk_frozen BK191.out 0; have hfz30_1 := blk_frozen BK191.out 1; have hfz30_2 := blk_frozen BK191.out 2) | (go_at_call 59; (with_reducible refine (virgationref09_Is.calls k _ _ l1_0 a1_1 _ _ l1_2 true _ ?side1 ?side2 ?side3 ?side4 A8.out).mono ?_); (case side1 => repeat (first | exact (Kd.C_below HR1_0.out HB.out) | (with_reducible refine Kd.C_alloc ?_ _) | (with_reducible refine Kd.C_drewN ?_ _) | (with_reducible refine Kd.C_drew ?_))); (case side2 => exact HC1_0.out); (case side3 => repeat (first | exact (Kd.C_below HR1_2.out HB.out) | (with_reducible refine Kd.C_alloc ?_ _) | (with_reducible refine Kd.C_drewN ?_ _) | (with_reducible refine Kd.C_drew ?_))); (case side4 => exact HC1_2.out); rintro e w31 ⟨rfl, hb⟩; have n0_ := Aside0.mk (blk_below (g := gb190) (o := .cells #[.slice A0_0 l0_0.length c0_0, .int .i64 a0_1, .slice A0_2 l0_2.length c0_2] 44 (0, 0)) (by (with_reducible repeat (first | refine blk_drewN ?_ _ | refine blk_drew ?_ | refine blk_alloc ?_ _)); exact BK190.out) hb); have n1_ := Aside0.mk (blk_below (g := gb191) (o := .cells #[.slice A1_0 l1_0.length c1_0, .int .i64 a1_1, .slice A1_2 l1_2.length c1_2] 44 (0, 0)) (by (with_reducible repeat (first | refine blk_drewN ?_ _ | refine blk_drew ?_ | refine blk_alloc ?_ _)); exact BK191.out) hb); have n2_ := Aside0.mk (below_step (by repeat (first | (with_reducible first | exact HB.out | apply below_alloc | apply pw_below_drewN | apply below_drew1 | refine below_set ?_ GE190.out | refine below_set ?_ GE191.out) | exact HB.out)) hb); clear BK190; clear BK191; clear HB; have BK190 := n0_; have BK191 := n1_; have HB := n2_; clear n0_ n1_ n2_; (try clear hb); (try clear hb2); (try clear hk); (try clear hi); have hcz32_0 : w31.cell? ⟨gb190, 0, none⟩ = some (.slice A0_0 l0_0.length c0_0) := (blk_cell BK190.out 0).trans rfl; have hcz32_1 : w31.cell? ⟨gb190, 1, none⟩ = some (.int .i64 a0_1) := (blk_cell BK190.out 1).trans rfl; have hcz32_2 : w31.cell? ⟨gb190, 2, none⟩ = some (.slice A0_2 l0_2.length c0_2) := (blk_cell BK190.out 2).trans rfl; have hfz32_0 := blk_frozen BK190.out 0; have hfz32_1 := blk_frozen BK190.out 1; have hfz32_2 := blk_frozen BK190.out 2; have hcz33_0 : w31.cell? ⟨gb191, 0, none⟩ = some (.slice A1_0 l1_0.length c1_0) := (blk_cell BK191.out 0).trans rfl; have hcz33_1 : w31.cell? ⟨gb191, 1, none⟩ = some (.int .i64 a1_1) := (blk_cell BK191.out 1).trans rfl; have hcz33_2 : w31.cell? ⟨gb191, 2, none⟩ = some (.slice A1_2 l1_2.length c1_2) := (blk_cell BK191.out 2).trans rfl; have hfz33_0 := blk_frozen BK191.out 0; have hfz33_1 := blk_frozen BK191.out 1; have hfz33_2 := blk_frozen BK191.out 2) | (go_at_call 60; (with_reducible refine (virgationref09_SameRanks.calls k _ _ l0_0 _ _ l1_0 false _ ?side1 ?side2 ?side3 ?side4 A10.out).mono ?_); (case side1 => repeat (first | exact (Kd.C_below HR0_0.out HB.out) | (with_reducible refine Kd.C_alloc ?_ _) | (with_reducible refine Kd.C_drewN ?_ _) | (with_reducible refine Kd.C_drew ?_))); (case side2 => exact HC0_0.out); (case side3 => repeat (first | exact (Kd.C_below HR1_0.out HB.out) | (with_reducible refine Kd.C_alloc ?_ _) | (with_reducible refine Kd.C_drewN ?_ _) | (with_reducible refine Kd.C_drew ?_))); (case side4 => exact HC1_0.out); rintro e w' ⟨rfl, ⟨nd, rfl⟩⟩))
          go_meet
          case rel => exact ⟨_, (true), (by first | rfl | (simp; done) | (simp [*]; done)), H', ⟨by first | omega | exact Nat.le_refl _⟩, ⟨by (with_reducible repeat (first | refine blk_drewN ?_ _ | refine blk_drew ?_ | refine blk_alloc ?_ _)); exact BK190.out⟩, ⟨by (with_reducible repeat (first | refine blk_drewN ?_ _ | refine blk_drew ?_ | refine blk_alloc ?_ _)); exact BK191.out⟩, ⟨by repeat (first | (with_reducible first | exact HB.out | apply below_alloc | apply pw_below_drewN | apply below_drew1 | refine below_set ?_ GE190.out | refine below_set ?_ GE191.out) | exact HB.out)⟩⟩
      · replace c9 := Bool.eq_false_iff.mpr c9
        subst c9
        have H1 : (virgationref09_Same.j0 k true l0_0 a0_1 l0_2 l1_0 a1_1 l1_2) = some r := by rw [if_neg (show ¬ (false = true) by decide)] at H; exact H
        clear H
        have H := H1
        clear H1
        have H' := Aside0.mk H
        clear H
        have hnb34 := NB190_191.out
        have hnc34 := NB191_190.out
        have hcz35_0 : w5.cell? ⟨gb190, 0, none⟩ = some (.slice A0_0 l0_0.length c0_0) := (blk_cell BK190.out 0).trans rfl
        have hcz35_1 : w5.cell? ⟨gb190, 1, none⟩ = some (.int .i64 a0_1) := (blk_cell BK190.out 1).trans rfl
        have hcz35_2 : w5.cell? ⟨gb190, 2, none⟩ = some (.slice A0_2 l0_2.length c0_2) := (blk_cell BK190.out 2).trans rfl
        have hfz35_0 := blk_frozen BK190.out 0
        have hfz35_1 := blk_frozen BK190.out 1
        have hfz35_2 := blk_frozen BK190.out 2
        go_wp2_with (first | ((with_reducible refine gate_callee (f := 59) rfl ?_); refine goesL_ (some 8) rfl rfl Try.func59 (by kernel_rfl) rfl #[.agg #[.slice A0_0 l0_0.length c0_0, .int .i64 a0_1, .slice A0_2 l0_2.length c0_2]] rfl (by (try simp only [List.map_toArray, List.map_cons, List.map_nil]); first | done | rfl | (simp only [List.length_drop, List.length_take]; rfl)) ?_; (with_reducible refine (virgationref09_Is.calls k _ _ l0_0 a0_1 _ _ l0_2 true _ ?side1 ?side2 ?side3 ?side4 A6.out).mono ?_); (case side1 => repeat (first | exact (Kd.C_below HR0_0.out HB.out) | (with_reducible refine Kd.C_alloc ?_ _) | (with_reducible refine Kd.C_drewN ?_ _) | (with_reducible refine Kd.C_drew ?_))); (case side2 => exact HC0_0.out); (case side3 => repeat (first | exact (Kd.C_below HR0_2.out HB.out) | (with_reducible refine Kd.C_alloc ?_ _) | (with_reducible refine Kd.C_drewN ?_ _) | (with_reducible refine Kd.C_drew ?_))); (case side4 => exact HC0_2.out); rintro e w36 ⟨rfl, hb⟩; refine ⟨_, rfl, ?_⟩; have n0_ := Aside0.mk (blk_below (g := gb190) (o := .cells #[.slice A0_0 l0_0.length c0_0, .int .i64 a0_1, .slice A0_2 l0_2.length c0_2] 44 (0, 0)) (by (with_reducible repeat (first | refine blk_drewN ?_ _ | refine blk_drew ?_ | refine blk_alloc ?_ _)); exact BK190.out) hb); have n1_ := Aside0.mk (blk_below (g := gb191) (o := .cells #[.slice A1_0 l1_0.length c1_0, .int .i64 a1_1, .slice A1_2 l1_2.length c1_2] 44 (0, 0)) (by (with_reducible repeat (first | refine blk_drewN ?_ _ | refine blk_drew ?_ | refine blk_alloc ?_ _)); exact BK191.out) hb); have n2_ := Aside0.mk (below_step (by repeat (first | (with_reducible first | exact HB.out | apply below_alloc | apply pw_below_drewN | apply below_drew1 | refine below_set ?_ GE190.out | refine below_set ?_ GE191.out) | exact HB.out)) hb); clear BK190; clear BK191; clear HB; have BK190 := n0_; have BK191 := n1_; have HB := n2_; clear n0_ n1_ n2_; (try clear hb); (try clear hb2); (try clear hk); (try clear hi); have hcz37_0 : w36.cell? ⟨gb191, 0, none⟩ = some (.slice A1_0 l1_0.length c1_0) := (blk_cell BK191.out 0).trans rfl; have hcz37_1 : w36.cell? ⟨gb191, 1, none⟩ = some (.int .i64 a1_1) := (blk_cell BK191.out 1).trans rfl; have hcz37_2 : w36.cell? ⟨gb191, 2, none⟩ = some (.slice A1_2 l1_2.length c1_2) := (blk_cell BK191.out 2).trans rfl; have hfz37_0 := blk_frozen BK191.out 0; have hfz37_1 := blk_frozen BK191.out 1; have hfz37_2 := blk_frozen BK191.out 2) | (go_at_call 59; (with_reducible refine (virgationref09_Is.calls k _ _ l1_0 a1_1 _ _ l1_2 false _ ?side1 ?side2 ?side3 ?side4 A8.out).mono ?_); (case side1 => repeat (first | exact (Kd.C_below HR1_0.out HB.out) | (with_reducible refine Kd.C_alloc ?_ _) | (with_reducible refine Kd.C_drewN ?_ _) | (with_reducible refine Kd.C_drew ?_))); (case side2 => exact HC1_0.out); (case side3 => repeat (first | exact (Kd.C_below HR1_2.out HB.out) | (with_reducible refine Kd.C_alloc ?_ _) | (with_reducible refine Kd.C_drewN ?_ _) | (with_reducible refine Kd.C_drew ?_))); (case side4 => exact HC1_2.out); rintro e w38 ⟨rfl, hb⟩; have n0_ := Aside0.mk (blk_below (g := gb190) (o := .cells #[.slice A0_0 l0_0.length c0_0, .int .i64 a0_1, .slice A0_2 l0_2.length c0_2] 44 (0, 0)) (by (with_reducible repeat (first | refine blk_drewN ?_ _ | refine blk_drew ?_ | refine blk_alloc ?_ _)); exact BK190.out) hb); have n1_ := Aside0.mk (blk_below (g := gb191) (o := .cells #[.slice A1_0 l1_0.length c1_0, .int .i64 a1_1, .slice A1_2 l1_2.length c1_2] 44 (0, 0)) (by (with_reducible repeat (first | refine blk_drewN ?_ _ | refine blk_drew ?_ | refine blk_alloc ?_ _)); exact BK191.out) hb); have n2_ := Aside0.mk (below_step (by repeat (first | (with_reducible first | exact HB.out | apply below_alloc | apply pw_below_drewN | apply below_drew1 | refine below_set ?_ GE190.out | refine below_set ?_ GE191.out) | exact HB.out)) hb); clear BK190; clear BK191; clear HB; have BK190 := n0_; have BK191 := n1_; have HB := n2_; clear n0_ n1_ n2_; (try clear hb); (try clear hb2); (try clear hk); (try clear hi)))
        go_meet
        case rel => exact ⟨_, (true), (by first | rfl | (simp; done) | (simp [*]; done)), H', ⟨by first | omega | exact Nat.le_refl _⟩, ⟨by (with_reducible repeat (first | refine blk_drewN ?_ _ | refine blk_drew ?_ | refine blk_alloc ?_ _)); exact BK190.out⟩, ⟨by (with_reducible repeat (first | refine blk_drewN ?_ _ | refine blk_drew ?_ | refine blk_alloc ?_ _)); exact BK191.out⟩, ⟨by repeat (first | (with_reducible first | exact HB.out | apply below_alloc | apply pw_below_drewN | apply below_drew1 | refine below_set ?_ GE190.out | refine below_set ?_ GE191.out) | exact HB.out)⟩⟩
    · replace c7 := Bool.eq_false_iff.mpr c7
      subst c7
      have H1 : (virgationref09_Same.j0 k true l0_0 a0_1 l0_2 l1_0 a1_1 l1_2) = some r := by rw [if_neg (show ¬ (false = true) by decide)] at H; exact H
      clear H
      have H := H1
      clear H1
      have H' := Aside0.mk H
      clear H
      have hnb39 := NB190_191.out
      have hnc39 := NB191_190.out
      have hcz40_0 : w5.cell? ⟨gb190, 0, none⟩ = some (.slice A0_0 l0_0.length c0_0) := (blk_cell BK190.out 0).trans rfl
      have hcz40_1 : w5.cell? ⟨gb190, 1, none⟩ = some (.int .i64 a0_1) := (blk_cell BK190.out 1).trans rfl
      have hcz40_2 : w5.cell? ⟨gb190, 2, none⟩ = some (.slice A0_2 l0_2.length c0_2) := (blk_cell BK190.out 2).trans rfl
      have hfz40_0 := blk_frozen BK190.out 0
      have hfz40_1 := blk_frozen BK190.out 1
      have hfz40_2 := blk_frozen BK190.out 2
      go_wp2_with (first | ((with_reducible refine gate_callee (f := 59) rfl ?_); refine goesL_ (some 8) rfl rfl Try.func59 (by kernel_rfl) rfl #[.agg #[.slice A0_0 l0_0.length c0_0, .int .i64 a0_1, .slice A0_2 l0_2.length c0_2]] rfl (by (try simp only [List.map_toArray, List.map_cons, List.map_nil]); first | done | rfl | (simp only [List.length_drop, List.length_take]; rfl)) ?_; (with_reducible refine (virgationref09_Is.calls k _ _ l0_0 a0_1 _ _ l0_2 false _ ?side1 ?side2 ?side3 ?side4 A6.out).mono ?_); (case side1 => repeat (first | exact (Kd.C_below HR0_0.out HB.out) | (with_reducible refine Kd.C_alloc ?_ _) | (with_reducible refine Kd.C_drewN ?_ _) | (with_reducible refine Kd.C_drew ?_))); (case side2 => exact HC0_0.out); (case side3 => repeat (first | exact (Kd.C_below HR0_2.out HB.out) | (with_reducible refine Kd.C_alloc ?_ _) | (with_reducible refine Kd.C_drewN ?_ _) | (with_reducible refine Kd.C_drew ?_))); (case side4 => exact HC0_2.out); rintro e w41 ⟨rfl, hb⟩; refine ⟨_, rfl, ?_⟩; have n0_ := Aside0.mk (blk_below (g := gb190) (o := .cells #[.slice A0_0 l0_0.length c0_0, .int .i64 a0_1, .slice A0_2 l0_2.length c0_2] 44 (0, 0)) (by (with_reducible repeat (first | refine blk_drewN ?_ _ | refine blk_drew ?_ | refine blk_alloc ?_ _)); exact BK190.out) hb); have n1_ := Aside0.mk (blk_below (g := gb191) (o := .cells #[.slice A1_0 l1_0.length c1_0, .int .i64 a1_1, .slice A1_2 l1_2.length c1_2] 44 (0, 0)) (by (with_reducible repeat (first | refine blk_drewN ?_ _ | refine blk_drew ?_ | refine blk_alloc ?_ _)); exact BK191.out) hb); have n2_ := Aside0.mk (below_step (by repeat (first | (with_reducible first | exact HB.out | apply below_alloc | apply pw_below_drewN | apply below_drew1 | refine below_set ?_ GE190.out | refine below_set ?_ GE191.out) | exact HB.out)) hb); clear BK190; clear BK191; clear HB; have BK190 := n0_; have BK191 := n1_; have HB := n2_; clear n0_ n1_ n2_; (try clear hb); (try clear hb2); (try clear hk); (try clear hi)))
      go_meet
      case rel => exact ⟨_, (true), (by first | rfl | (simp; done) | (simp [*]; done)), H', ⟨by first | omega | exact Nat.le_refl _⟩, ⟨by (with_reducible repeat (first | refine blk_drewN ?_ _ | refine blk_drew ?_ | refine blk_alloc ?_ _)); exact BK190.out⟩, ⟨by (with_reducible repeat (first | refine blk_drewN ?_ _ | refine blk_drew ?_ | refine blk_alloc ?_ _)); exact BK191.out⟩, ⟨by repeat (first | (with_reducible first | exact HB.out | apply below_alloc | apply pw_below_drewN | apply below_drew1 | refine below_set ?_ GE190.out | refine below_set ?_ GE191.out) | exact HB.out)⟩⟩
  case rest =>
    clear HC3
    try clear c1
    try clear c2
    try clear p2
    try clear c3
    try clear c5
    try clear c7
    try clear c9
    try clear c11
    try clear c12
    try clear c12b0
    try clear c12b1
    try clear c13
    try clear c20
    try clear c27
    try clear c34
    try clear c35
    try clear c39
    try clear hcz14_0
    try clear hcz14_1
    try clear hcz14_2
    try clear hcz16_0
    try clear hcz16_1
    try clear hcz16_2
    try clear hcz18_0
    try clear hcz18_1
    try clear hcz18_2
    try clear hcz19_0
    try clear hcz19_1
    try clear hcz19_2
    try clear hcz21_0
    try clear hcz21_1
    try clear hcz21_2
    try clear hcz23_0
    try clear hcz23_1
    try clear hcz23_2
    try clear hcz25_0
    try clear hcz25_1
    try clear hcz25_2
    try clear hcz26_0
    try clear hcz26_1
    try clear hcz26_2
    try clear hcz28_0
    try clear hcz28_1
    try clear hcz28_2
    try clear hcz30_0
    try clear hcz30_1
    try clear hcz30_2
    try clear hcz32_0
    try clear hcz32_1
    try clear hcz32_2
    try clear hcz33_0
    try clear hcz33_1
    try clear hcz33_2
    try clear hcz35_0
    try clear hcz35_1
    try clear hcz35_2
    try clear hcz37_0
    try clear hcz37_1
    try clear hcz37_2
    try clear hcz40_0
    try clear hcz40_1
    try clear hcz40_2
    try clear hfz14_0
    try clear hfz14_1
    try clear hfz14_2
    try clear hfz16_0
    try clear hfz16_1
    try clear hfz16_2
    try clear hfz18_0
    try clear hfz18_1
    try clear hfz18_2
    try clear hfz19_0
    try clear hfz19_1
    try clear hfz19_2
    try clear hfz21_0
    try clear hfz21_1
    try clear hfz21_2
    try clear hfz23_0
    try clear hfz23_1
    try clear hfz23_2
    try clear hfz25_0
    try clear hfz25_1
    try clear hfz25_2
    try clear hfz26_0
    try clear hfz26_1
    try clear hfz26_2
    try clear hfz28_0
    try clear hfz28_1
    try clear hfz28_2
    try clear hfz30_0
    try clear hfz30_1
    try clear hfz30_2
    try clear hfz32_0
    try clear hfz32_1
    try clear hfz32_2
    try clear hfz33_0
    try clear hfz33_1
    try clear hfz33_2
    try clear hfz35_0
    try clear hfz35_1
    try clear hfz35_2
    try clear hfz37_0
    try clear hfz37_1
    try clear hfz37_2
    try clear hfz40_0
    try clear hfz40_1
    try clear hfz40_2
    obtain ⟨kq, x38_2, rfl, HA, HJ2, BK190, BK191, HB⟩ := hcut
    cases kq with
    | zero => exact absurd HA.out (by simp [virgationref09_Same.j0])
    | succ kj2 =>
      have H := HA.out
      clear HA
      simp only [virgationref09_Same.j0] at H
      by_cases c42 : x38_2 = true
      · subst c42
        have H1 : (some false) = some r := by rw [if_pos rfl] at H; exact H
        clear H
        have H := H1
        clear H1
        obtain rfl := Option.some.inj H
        go_wp2
        go_ret
        exact ⟨by first | rfl | (simp [errW_none, errW_some] <;> rfl) | (simp [*, errW_none, errW_some] <;> rfl), by repeat (first | (with_reducible first | exact HB.out | apply below_alloc | apply pw_below_drewN | apply below_drew1 | refine below_set ?_ GE190.out | refine below_set ?_ GE191.out) | exact HB.out)⟩
      · replace c42 := Bool.eq_false_iff.mpr c42
        subst c42
        have H1 : (virgationref09_Same.l0 kj2 (l0_2.length : Int) 0 l0_0 a0_1 l0_2 l1_0 a1_1 l1_2) = some r := by rw [if_neg (show ¬ (false = true) by decide)] at H; exact H
        clear H
        have H := H1
        clear H1
        have H' := Aside0.mk H
        clear H
        have hnb43 := NB190_191.out
        have hnc43 := NB191_190.out
        have hcz44_0 : wc.cell? ⟨gb190, 0, none⟩ = some (.slice A0_0 l0_0.length c0_0) := (blk_cell BK190.out 0).trans rfl
        have hcz44_1 : wc.cell? ⟨gb190, 1, none⟩ = some (.int .i64 a0_1) := (blk_cell BK190.out 1).trans rfl
        have hcz44_2 : wc.cell? ⟨gb190, 2, none⟩ = some (.slice A0_2 l0_2.length c0_2) := (blk_cell BK190.out 2).trans rfl
        have hfz44_0 := blk_frozen BK190.out 0
        have hfz44_1 := blk_frozen BK190.out 1
        have hfz44_2 := blk_frozen BK190.out 2
        go_wp2
        go_loopg [42] kj2 (fun kq v42 w' => ∃ (x42_2 : Int), v42 = .int .i64 x42_2 ∧ Aside0 (virgationref09_Same.l0 kq (l0_2.length : Int) x42_2 l0_0 a0_1 l0_2 l1_0 a1_1 l1_2 = some r) ∧ Aside0 (kq ≤ kj2) ∧ Aside0 (w'.heap[gb190]? = some (.cells #[(.slice A0_0 l0_0.length c0_0), .int .i64 a0_1, (.slice A0_2 l0_2.length c0_2)] 44 (0, 0))) ∧ Aside0 (w'.heap[gb191]? = some (.cells #[(.slice A1_0 l1_0.length c1_0), .int .i64 a1_1, (.slice A1_2 l1_2.length c1_2)] 44 (0, 0))) ∧ Aside0 (Below w.heap.size w w'))
        case atStart => exact ⟨(0), (by first | rfl | (simp; done) | (simp [*]; done)), H', ⟨Nat.le_refl _⟩, ⟨by (with_reducible repeat (first | refine blk_drewN ?_ _ | refine blk_drew ?_ | refine blk_alloc ?_ _)); exact BK190.out⟩, ⟨by (with_reducible repeat (first | refine blk_drewN ?_ _ | refine blk_drew ?_ | refine blk_alloc ?_ _)); exact BK191.out⟩, ⟨by repeat (first | (with_reducible first | exact HB.out | apply below_alloc | apply pw_below_drewN | apply below_drew1 | refine below_set ?_ GE190.out | refine below_set ?_ GE191.out) | exact HB.out)⟩⟩
        case round =>
          clear H'
          try clear c1
          try clear c2
          try clear p2
          try clear c3
          try clear c4
          try clear c5
          try clear c7
          try clear c9
          try clear c11
          try clear c12
          try clear c12b0
          try clear c12b1
          try clear c13
          try clear c20
          try clear c27
          try clear c34
          try clear c35
          try clear c39
          try clear c42
          try clear c43
          try clear hcz14_0
          try clear hcz14_1
          try clear hcz14_2
          try clear hcz16_0
          try clear hcz16_1
          try clear hcz16_2
          try clear hcz18_0
          try clear hcz18_1
          try clear hcz18_2
          try clear hcz19_0
          try clear hcz19_1
          try clear hcz19_2
          try clear hcz21_0
          try clear hcz21_1
          try clear hcz21_2
          try clear hcz23_0
          try clear hcz23_1
          try clear hcz23_2
          try clear hcz25_0
          try clear hcz25_1
          try clear hcz25_2
          try clear hcz26_0
          try clear hcz26_1
          try clear hcz26_2
          try clear hcz28_0
          try clear hcz28_1
          try clear hcz28_2
          try clear hcz30_0
          try clear hcz30_1
          try clear hcz30_2
          try clear hcz32_0
          try clear hcz32_1
          try clear hcz32_2
          try clear hcz33_0
          try clear hcz33_1
          try clear hcz33_2
          try clear hcz35_0
          try clear hcz35_1
          try clear hcz35_2
          try clear hcz37_0
          try clear hcz37_1
          try clear hcz37_2
          try clear hcz40_0
          try clear hcz40_1
          try clear hcz40_2
          try clear hcz44_0
          try clear hcz44_1
          try clear hcz44_2
          try clear hfz14_0
          try clear hfz14_1
          try clear hfz14_2
          try clear hfz16_0
          try clear hfz16_1
          try clear hfz16_2
          try clear hfz18_0
          try clear hfz18_1
          try clear hfz18_2
          try clear hfz19_0
          try clear hfz19_1
          try clear hfz19_2
          try clear hfz21_0
          try clear hfz21_1
          try clear hfz21_2
          try clear hfz23_0
          try clear hfz23_1
          try clear hfz23_2
          try clear hfz25_0
          try clear hfz25_1
          try clear hfz25_2
          try clear hfz26_0
          try clear hfz26_1
          try clear hfz26_2
          try clear hfz28_0
          try clear hfz28_1
          try clear hfz28_2
          try clear hfz30_0
          try clear hfz30_1
          try clear hfz30_2
          try clear hfz32_0
          try clear hfz32_1
          try clear hfz32_2
          try clear hfz33_0
          try clear hfz33_1
          try clear hfz33_2
          try clear hfz35_0
          try clear hfz35_1
          try clear hfz35_2
          try clear hfz37_0
          try clear hfz37_1
          try clear hfz37_2
          try clear hfz40_0
          try clear hfz40_1
          try clear hfz40_2
          try clear hfz44_0
          try clear hfz44_1
          try clear hfz44_2
          try clear p2
          obtain ⟨x42_2, rfl, HA, HK2, BK190, BK191, HB⟩ := hrel
          cases gk with
          | zero => exact absurd HA.out (by simp [virgationref09_Same.l0])
          | succ k2 =>
            have H := HA.out
            clear HA
            simp only [virgationref09_Same.l0] at H
            by_cases c45 : x42_2 < (l0_2.length : Int)
            · rw [if_pos c45] at H
              have c45b0 : decide (x42_2 < (l0_2.length : Int)) = true := decide_eq_true c45
              clear c45
              have H' := Aside0.mk H
              clear H
              have hnb46 := NB190_191.out
              have hnc46 := NB191_190.out
              have hcz47_0 : wr.cell? ⟨gb190, 0, none⟩ = some (.slice A0_0 l0_0.length c0_0) := (blk_cell BK190.out 0).trans rfl
              have hcz47_1 : wr.cell? ⟨gb190, 1, none⟩ = some (.int .i64 a0_1) := (blk_cell BK190.out 1).trans rfl
              have hcz47_2 : wr.cell? ⟨gb190, 2, none⟩ = some (.slice A0_2 l0_2.length c0_2) := (blk_cell BK190.out 2).trans rfl
              have hfz47_0 := blk_frozen BK190.out 0
              have hfz47_1 := blk_frozen BK190.out 1
              have hfz47_2 := blk_frozen BK190.out 2
              go_wp2
              go_loopg [48] k2 (fun kq v48 w' => ∃ (x48_3 : Int), v48 = .int .i64 x48_3 ∧ Aside0 (virgationref09_Same.l1 kq x42_2 (l0_2.length : Int) x42_2 (l0_0.length : Int) x48_3 l0_0 a0_1 l0_2 l1_0 a1_1 l1_2 = some r) ∧ Aside0 (kq ≤ k2) ∧ Aside0 (w'.heap[gb190]? = some (.cells #[(.slice A0_0 l0_0.length c0_0), .int .i64 a0_1, (.slice A0_2 l0_2.length c0_2)] 44 (0, 0))) ∧ Aside0 (w'.heap[gb191]? = some (.cells #[(.slice A1_0 l1_0.length c1_0), .int .i64 a1_1, (.slice A1_2 l1_2.length c1_2)] 44 (0, 0))) ∧ Aside0 (Below w.heap.size w w'))
              case atStart => exact ⟨(0), (by first | rfl | (simp; done) | (simp [*]; done)), H', ⟨Nat.le_refl _⟩, ⟨by (with_reducible repeat (first | refine blk_drewN ?_ _ | refine blk_drew ?_ | refine blk_alloc ?_ _)); exact BK190.out⟩, ⟨by (with_reducible repeat (first | refine blk_drewN ?_ _ | refine blk_drew ?_ | refine blk_alloc ?_ _)); exact BK191.out⟩, ⟨by repeat (first | (with_reducible first | exact HB.out | apply below_alloc | apply pw_below_drewN | apply below_drew1 | refine below_set ?_ GE190.out | refine below_set ?_ GE191.out) | exact HB.out)⟩⟩
              case round =>
                clear H'
                try clear c1
                try clear c2
                try clear p2
                try clear c3
                try clear c4
                try clear c5
                try clear c7
                try clear c9
                try clear c11
                try clear c12
                try clear c12b0
                try clear c12b1
                try clear c13
                try clear c20
                try clear c27
                try clear c34
                try clear c35
                try clear c39
                try clear c42
                try clear c43
                try clear c45
                try clear c45b0
                try clear c46
                try clear hcz14_0
                try clear hcz14_1
                try clear hcz14_2
                try clear hcz16_0
                try clear hcz16_1
                try clear hcz16_2
                try clear hcz18_0
                try clear hcz18_1
                try clear hcz18_2
                try clear hcz19_0
                try clear hcz19_1
                try clear hcz19_2
                try clear hcz21_0
                try clear hcz21_1
                try clear hcz21_2
                try clear hcz23_0
                try clear hcz23_1
                try clear hcz23_2
                try clear hcz25_0
                try clear hcz25_1
                try clear hcz25_2
                try clear hcz26_0
                try clear hcz26_1
                try clear hcz26_2
                try clear hcz28_0
                try clear hcz28_1
                try clear hcz28_2
                try clear hcz30_0
                try clear hcz30_1
                try clear hcz30_2
                try clear hcz32_0
                try clear hcz32_1
                try clear hcz32_2
                try clear hcz33_0
                try clear hcz33_1
                try clear hcz33_2
                try clear hcz35_0
                try clear hcz35_1
                try clear hcz35_2
                try clear hcz37_0
                try clear hcz37_1
                try clear hcz37_2
                try clear hcz40_0
                try clear hcz40_1
                try clear hcz40_2
                try clear hcz44_0
                try clear hcz44_1
                try clear hcz44_2
                try clear hcz47_0
                try clear hcz47_1
                try clear hcz47_2
                try clear hfz14_0
                try clear hfz14_1
                try clear hfz14_2
                try clear hfz16_0
                try clear hfz16_1
                try clear hfz16_2
                try clear hfz18_0
                try clear hfz18_1
                try clear hfz18_2
                try clear hfz19_0
                try clear hfz19_1
                try clear hfz19_2
                try clear hfz21_0
                try clear hfz21_1
                try clear hfz21_2
                try clear hfz23_0
                try clear hfz23_1
                try clear hfz23_2
                try clear hfz25_0
                try clear hfz25_1
                try clear hfz25_2
                try clear hfz26_0
                try clear hfz26_1
                try clear hfz26_2
                try clear hfz28_0
                try clear hfz28_1
                try clear hfz28_2
                try clear hfz30_0
                try clear hfz30_1
                try clear hfz30_2
                try clear hfz32_0
                try clear hfz32_1
                try clear hfz32_2
                try clear hfz33_0
                try clear hfz33_1
                try clear hfz33_2
                try clear hfz35_0
                try clear hfz35_1
                try clear hfz35_2
                try clear hfz37_0
                try clear hfz37_1
                try clear hfz37_2
                try clear hfz40_0
                try clear hfz40_1
                try clear hfz40_2
                try clear hfz44_0
                try clear hfz44_1
                try clear hfz44_2
                try clear hfz47_0
                try clear hfz47_1
                try clear hfz47_2
                try clear p2
                obtain ⟨x48_3, rfl, HA, HK3, BK190, BK191, HB⟩ := hrel
                cases gk with
                | zero => exact absurd HA.out (by simp [virgationref09_Same.l1])
                | succ k3 =>
                  have H := HA.out
                  clear HA
                  simp only [virgationref09_Same.l1] at H
                  by_cases c48 : x48_3 < (l0_0.length : Int)
                  · rw [if_pos c48] at H
                    have c48b0 : decide (x48_3 < (l0_0.length : Int)) = true := decide_eq_true c48
                    clear c48
                    by_cases c49 : 0 ≤ x42_2
                    · rw [if_pos c49] at H
                      have c49b0 : decide (0 ≤ x42_2) = true := decide_eq_true c49
                      clear c49
                      by_cases c50 : x42_2 < (l0_2.length : Int)
                      · rw [if_pos c50] at H
                        have c50b0 : decide (x42_2 < (l0_2.length : Int)) = true := decide_eq_true c50
                        clear c50
                        by_cases c51 : 0 ≤ x48_3
                        · rw [if_pos c51] at H
                          have c51b0 : decide (0 ≤ x48_3) = true := decide_eq_true c51
                          clear c51
                          by_cases c52 : x48_3 < ((rd_L5 l0_2 x42_2).length : Int)
                          · rw [if_pos c52] at H
                            have c52b0 : decide (x48_3 < ((rd_L5 l0_2 x42_2).length : Int)) = true := decide_eq_true c52
                            clear c52
                            by_cases c53 : x42_2 < (l1_2.length : Int)
                            · rw [if_pos c53] at H
                              have c53b0 : decide (x42_2 < (l1_2.length : Int)) = true := decide_eq_true c53
                              clear c53
                              by_cases c54 : x48_3 < ((rd_L5 l1_2 x42_2).length : Int)
                              · rw [if_pos c54] at H
                                have c54b0 : decide (x48_3 < ((rd_L5 l1_2 x42_2).length : Int)) = true := decide_eq_true c54
                                clear c54
                                replace H := Option.bind_eq_some_iff.mp H
                                obtain ⟨t199, A550, H⟩ := H
                                replace H : (if t199 = true then (virgationref09_Same.l1 k3 x42_2 (l0_2.length : Int) x42_2 (l0_0.length : Int) (wrap64 (x48_3 + 1)) l0_0 a0_1 l0_2 l1_0 a1_1 l1_2) else (some false)) = some r := H
                                have A55 := Aside0.mk A550
                                clear A550
                                by_cases c56 : t199 = true
                                · subst c56
                                  have H1 : (virgationref09_Same.l1 k3 x42_2 (l0_2.length : Int) x42_2 (l0_0.length : Int) (wrap64 (x48_3 + 1)) l0_0 a0_1 l0_2 l1_0 a1_1 l1_2) = some r := by rw [if_pos rfl] at H; exact H
                                  clear H
                                  have H := H1
                                  clear H1
                                  have H' := Aside0.mk H
                                  clear H
                                  try go_wp2
                                  have n0_ := Aside0.mk (blk_drew BK190.out)
                                  have n1_ := Aside0.mk (blk_drew BK191.out)
                                  have n2_ := Aside0.mk (below_drew1 HB.out)
                                  clear BK190
                                  clear BK191
                                  clear HB
                                  have BK190 := n0_
                                  have BK191 := n1_
                                  have HB := n2_
                                  clear n0_ n1_ n2_
                                  have p195 : 0 ≤ (x42_2 : Int) := of_decide_eq_true (by first | (with_reducible assumption) | assumption)
                                  have q195 : x42_2 < (l0_2.length : Int) := of_decide_eq_true (by first | (with_reducible assumption) | assumption)
                                  obtain ⟨ad195, A195_0, c195_0, e195, hx195_0, hl195_0, hi195_0⟩ := at_L5 HR0_2.out x42_2 p195 q195
                                  have hw195_0 := hx195_0
                                  cases e195
                                  replace hx195_0 := (HB.out.cell (World.block_lt_of_cell? w _ hx195_0)).trans hx195_0
                                  have HR195_0 := Aside0.mk hi195_0
                                  have HC195_0 := Aside0.mk hl195_0
                                  clear hi195_0 hl195_0
                                  replace p195 := eq_true p195
                                  replace q195 := eq_true q195
                                  have p196 : 0 ≤ (x48_3 : Int) := of_decide_eq_true (by first | (with_reducible assumption) | assumption)
                                  have q196 : x48_3 < ((rd_L5 l0_2 x42_2).length : Int) := of_decide_eq_true (by first | (with_reducible assumption) | assumption)
                                  obtain ⟨ad196, A196_0, c196_0, e196, hx196_0, hl196_0, hi196_0⟩ := at_L4 HR195_0.out x48_3 p196 q196
                                  have hw196_0 := hx196_0
                                  cases e196
                                  replace hx196_0 := (HB.out.cell (World.block_lt_of_cell? w _ hx196_0)).trans hx196_0
                                  have HR196_0 := Aside0.mk hi196_0
                                  have HC196_0 := Aside0.mk hl196_0
                                  clear hi196_0 hl196_0
                                  replace p196 := eq_true p196
                                  replace q196 := eq_true q196
                                  have p197 : 0 ≤ (x42_2 : Int) := of_decide_eq_true (by first | (with_reducible assumption) | assumption)
                                  have q197 : x42_2 < (l1_2.length : Int) := of_decide_eq_true (by first | (with_reducible assumption) | assumption)
                                  obtain ⟨ad197, A197_0, c197_0, e197, hx197_0, hl197_0, hi197_0⟩ := at_L5 HR1_2.out x42_2 p197 q197
                                  have hw197_0 := hx197_0
                                  cases e197
                                  replace hx197_0 := (HB.out.cell (World.block_lt_of_cell? w _ hx197_0)).trans hx197_0
                                  have HR197_0 := Aside0.mk hi197_0
                                  have HC197_0 := Aside0.mk hl197_0
                                  clear hi197_0 hl197_0
                                  replace p197 := eq_true p197
                                  replace q197 := eq_true q197
                                  have p198 : 0 ≤ (x48_3 : Int) := of_decide_eq_true (by first | (with_reducible assumption) | assumption)
                                  have q198 : x48_3 < ((rd_L5 l1_2 x42_2).length : Int) := of_decide_eq_true (by first | (with_reducible assumption) | assumption)
                                  obtain ⟨ad198, A198_0, c198_0, e198, hx198_0, hl198_0, hi198_0⟩ := at_L4 HR197_0.out x48_3 p198 q198
                                  have hw198_0 := hx198_0
                                  cases e198
                                  replace hx198_0 := (HB.out.cell (World.block_lt_of_cell? w _ hx198_0)).trans hx198_0
                                  have HR198_0 := Aside0.mk hi198_0
                                  have HC198_0 := Aside0.mk hl198_0
                                  clear hi198_0 hl198_0
                                  replace p198 := eq_true p198
                                  replace q198 := eq_true q198
                                  refine start_ (n := 18) (S := fun w' => w'.cell? ⟨gb190, 0, none⟩ = some (.slice A0_0 l0_0.length c0_0) ∧ w'.cell? ⟨gb190, 1, none⟩ = some (.int .i64 a0_1) ∧ w'.cell? ⟨gb190, 2, none⟩ = some (.slice (some ad195) l0_2.length c0_2) ∧ w'.cell? ⟨gb191, 0, none⟩ = some (.slice A1_0 l1_0.length c1_0) ∧ w'.cell? ⟨gb191, 1, none⟩ = some (.int .i64 a1_1) ∧ w'.cell? ⟨gb191, 2, none⟩ = some (.slice (some ad197) l1_2.length c1_2) ∧ w'.cell? (ad195.add (x42_2).toNat) = some (.slice (some ad196) (rd_L5 l0_2 x42_2).length c195_0) ∧ w'.cell? (ad196.add (x48_3).toNat) = some (.slice A196_0 (rd_L4 (rd_L5 l0_2 x42_2) x48_3).length c196_0) ∧ w'.cell? (ad197.add (x42_2).toNat) = some (.slice (some ad198) (rd_L5 l1_2 x42_2).length c197_0) ∧ w'.cell? (ad198.add (x48_3).toNat) = some (.slice A198_0 (rd_L4 (rd_L5 l1_2 x42_2) x48_3).length c198_0)) (ds := []) #[false, false, false, false, false, false, false, false, false, false, false, false, false, false, false, false, false, false] (by kernel_rfl) rfl rfl ⟨(blk_cell BK190.out 0).trans rfl, (blk_cell BK190.out 1).trans rfl, (blk_cell BK190.out 2).trans rfl, (blk_cell BK191.out 0).trans rfl, (blk_cell BK191.out 1).trans rfl, (blk_cell BK191.out 2).trans rfl, ((HB.out.cell (World.block_lt_of_cell? w _ hw195_0)).trans hw195_0), ((HB.out.cell (World.block_lt_of_cell? w _ hw196_0)).trans hw196_0), ((HB.out.cell (World.block_lt_of_cell? w _ hw197_0)).trans hw197_0), ((HB.out.cell (World.block_lt_of_cell? w _ hw198_0)).trans hw198_0)⟩ (fun hHeld => ?_); refine with_tabW virgationref09_Same.tab9 virgationref09_Same.bits9 (fun HT_ HW_ => ?_)
                                  generalize wr.drew = w57 at BK190 BK191 HB HR195_0 HR196_0 HR197_0 HR198_0 hx195_0 hx196_0 hx197_0 hx198_0 hHeld ⊢
                                  refine pure_ (i := 0) (N := some 51) (v := ?_) (a' := ?_) #[true, false, false, false, false, false, false, false, false, false, false, false, false, false, false, false, false, false] rfl rfl (any_of HT_.out (by kernel_rfl)) (fun _ _ _ h => h) (Or.inl ⟨by rfl, ?_⟩) ?_ ?_
                                  rotate_left
                                  · intro w'
                                    go_simp
                                    with_reducible rfl
                                  rotate_left
                                  · simp only [Act.put, List.setIfInBounds_toArray, List.set_cons_zero, List.set_cons_succ, i64_w, i32_w]
                                    rfl
                                  refine pure_ (i := 2) (N := some 53) (v := ?_) (a' := ?_) #[true, false, true, false, false, false, false, false, false, false, false, false, false, false, false, false, false, false] rfl rfl (any_of HT_.out (by kernel_rfl)) (fun _ _ _ h => h) (Or.inl ⟨by rfl, ?_⟩) ?_ ?_
                                  rotate_left
                                  · intro w'
                                    go_simp
                                    with_reducible rfl
                                  rotate_left
                                  · simp only [Act.put, List.setIfInBounds_toArray, List.set_cons_zero, List.set_cons_succ, i64_w, i32_w]
                                    rfl
                                  refine pure_ (i := 5) (N := some 56) (v := ?_) (a' := ?_) #[true, false, true, false, false, true, false, false, false, false, false, false, false, false, false, false, false, false] rfl rfl (any_of HT_.out (by kernel_rfl)) (fun _ _ _ h => h) (Or.inl ⟨by rfl, ?_⟩) ?_ ?_
                                  rotate_left
                                  · intro w'
                                    go_simp
                                    with_reducible rfl
                                  rotate_left
                                  · simp only [Act.put, List.setIfInBounds_toArray, List.set_cons_zero, List.set_cons_succ, i64_w, i32_w]
                                    rfl
                                  refine pure_ (i := 8) (N := some 59) (v := ?_) (a' := ?_) #[true, false, true, false, false, true, false, false, true, false, false, false, false, false, false, false, false, false] rfl rfl (any_of HT_.out (by kernel_rfl)) (fun _ _ _ h => h) (Or.inl ⟨by rfl, ?_⟩) ?_ ?_
                                  rotate_left
                                  · intro w'
                                    go_simp
                                    with_reducible rfl
                                  rotate_left
                                  · simp only [Act.put, List.setIfInBounds_toArray, List.set_cons_zero, List.set_cons_succ, i64_w, i32_w]
                                    rfl
                                  refine pure_ (i := 10) (N := some 61) (v := ?_) (a' := ?_) #[true, false, true, false, false, true, false, false, true, false, true, false, false, false, false, false, false, false] rfl rfl (any_of HT_.out (by kernel_rfl)) (fun _ _ _ h => h) (Or.inl ⟨by rfl, ?_⟩) ?_ ?_
                                  rotate_left
                                  · intro w'
                                    go_simp
                                    with_reducible rfl
                                  rotate_left
                                  · simp only [Act.put, List.setIfInBounds_toArray, List.set_cons_zero, List.set_cons_succ, i64_w, i32_w]
                                    rfl
                                  refine pure_ (i := 13) (N := some 64) (v := ?_) (a' := ?_) #[true, false, true, false, false, true, false, false, true, false, true, false, false, true, false, false, false, false] rfl rfl (any_of HT_.out (by kernel_rfl)) (fun _ _ _ h => h) (Or.inl ⟨by rfl, ?_⟩) ?_ ?_
                                  rotate_left
                                  · intro w'
                                    go_simp
                                    with_reducible rfl
                                  rotate_left
                                  · simp only [Act.put, List.setIfInBounds_toArray, List.set_cons_zero, List.set_cons_succ, i64_w, i32_w]
                                    rfl
                                  refine take_ (i := 1) (N := some 52) (v := ?_) (a' := ?_) #[true, true, true, false, false, true, false, false, true, false, true, false, false, true, false, false, false, false] rfl rfl (take_ofW HT_.out HW_.out (by kernel_rfl)) (fun _ _ _ h => h) (Or.inl ⟨by rfl, ?_⟩) hHeld ?_ ?_
                                  rotate_left
                                  · rintro w' ⟨s0, s1, s2, s3, s4, s5, s6, s7, s8, s9⟩
                                    go_simp
                                    with_reducible rfl
                                  rotate_left
                                  · simp only [Act.put, List.setIfInBounds_toArray, List.set_cons_zero, List.set_cons_succ, i64_w, i32_w]
                                    rfl
                                  refine pure_ (i := 3) (N := some 54) (v := ?_) (a' := ?_) #[true, true, true, true, false, true, false, false, true, false, true, false, false, true, false, false, false, false] rfl rfl (any_of HT_.out (by kernel_rfl)) (fun _ _ _ h => h) (Or.inl ⟨by rfl, ?_⟩) ?_ ?_
                                  rotate_left
                                  · intro w'
                                    go_simp
                                    with_reducible rfl
                                  rotate_left
                                  · simp only [Act.put, List.setIfInBounds_toArray, List.set_cons_zero, List.set_cons_succ, i64_w, i32_w]
                                    rfl
                                  refine take_ (i := 4) (N := some 55) (v := ?_) (a' := ?_) #[true, true, true, true, true, true, false, false, true, false, true, false, false, true, false, false, false, false] rfl rfl (take_ofW HT_.out HW_.out (by kernel_rfl)) (fun _ _ _ h => h) (Or.inl ⟨by rfl, ?_⟩) hHeld ?_ ?_
                                  rotate_left
                                  · rintro w' ⟨s0, s1, s2, s3, s4, s5, s6, s7, s8, s9⟩
                                    go_simp
                                    with_reducible rfl
                                  rotate_left
                                  · simp only [Act.put, List.setIfInBounds_toArray, List.set_cons_zero, List.set_cons_succ, i64_w, i32_w]
                                    rfl
                                  refine pure_ (i := 6) (N := some 57) (v := ?_) (a' := ?_) #[true, true, true, true, true, true, true, false, true, false, true, false, false, true, false, false, false, false] rfl rfl (any_of HT_.out (by kernel_rfl)) (fun _ _ _ h => h) (Or.inl ⟨by rfl, ?_⟩) ?_ ?_
                                  rotate_left
                                  · intro w'
                                    go_simp
                                    with_reducible rfl
                                  rotate_left
                                  · simp only [Act.put, List.setIfInBounds_toArray, List.set_cons_zero, List.set_cons_succ, i64_w, i32_w]
                                    rfl
                                  refine take_ (i := 7) (N := some 58) (v := ?_) (a' := ?_) #[true, true, true, true, true, true, true, true, true, false, true, false, false, true, false, false, false, false] rfl rfl (take_ofW HT_.out HW_.out (by kernel_rfl)) (fun _ _ _ h => h) (Or.inl ⟨by rfl, ?_⟩) hHeld ?_ ?_
                                  rotate_left
                                  · rintro w' ⟨s0, s1, s2, s3, s4, s5, s6, s7, s8, s9⟩
                                    go_simp
                                    with_reducible rfl
                                  rotate_left
                                  · simp only [Act.put, List.setIfInBounds_toArray, List.set_cons_zero, List.set_cons_succ, i64_w, i32_w]
                                    rfl
                                  refine take_ (i := 9) (N := some 60) (v := ?_) (a' := ?_) #[true, true, true, true, true, true, true, true, true, true, true, false, false, true, false, false, false, false] rfl rfl (take_ofW HT_.out HW_.out (by kernel_rfl)) (fun _ _ _ h => h) (Or.inl ⟨by rfl, ?_⟩) hHeld ?_ ?_
                                  rotate_left
                                  · rintro w' ⟨s0, s1, s2, s3, s4, s5, s6, s7, s8, s9⟩
                                    go_simp
                                    with_reducible rfl
                                  rotate_left
                                  · simp only [Act.put, List.setIfInBounds_toArray, List.set_cons_zero, List.set_cons_succ, i64_w, i32_w]
                                    rfl
                                  refine pure_ (i := 11) (N := some 62) (v := ?_) (a' := ?_) #[true, true, true, true, true, true, true, true, true, true, true, true, false, true, false, false, false, false] rfl rfl (any_of HT_.out (by kernel_rfl)) (fun _ _ _ h => h) (Or.inl ⟨by rfl, ?_⟩) ?_ ?_
                                  rotate_left
                                  · intro w'
                                    go_simp
                                    with_reducible rfl
                                  rotate_left
                                  · simp only [Act.put, List.setIfInBounds_toArray, List.set_cons_zero, List.set_cons_succ, i64_w, i32_w]
                                    rfl
                                  refine take_ (i := 12) (N := some 63) (v := ?_) (a' := ?_) #[true, true, true, true, true, true, true, true, true, true, true, true, true, true, false, false, false, false] rfl rfl (take_ofW HT_.out HW_.out (by kernel_rfl)) (fun _ _ _ h => h) (Or.inl ⟨by rfl, ?_⟩) hHeld ?_ ?_
                                  rotate_left
                                  · rintro w' ⟨s0, s1, s2, s3, s4, s5, s6, s7, s8, s9⟩
                                    go_simp
                                    with_reducible rfl
                                  rotate_left
                                  · simp only [Act.put, List.setIfInBounds_toArray, List.set_cons_zero, List.set_cons_succ, i64_w, i32_w]
                                    rfl
                                  refine pure_ (i := 14) (N := some 65) (v := ?_) (a' := ?_) #[true, true, true, true, true, true, true, true, true, true, true, true, true, true, true, false, false, false] rfl rfl (any_of HT_.out (by kernel_rfl)) (fun _ _ _ h => h) (Or.inl ⟨by rfl, ?_⟩) ?_ ?_
                                  rotate_left
                                  · intro w'
                                    go_simp
                                    with_reducible rfl
                                  rotate_left
                                  · simp only [Act.put, List.setIfInBounds_toArray, List.set_cons_zero, List.set_cons_succ, i64_w, i32_w]
                                    rfl
                                  refine take_ (i := 15) (N := some 66) (v := ?_) (a' := ?_) #[true, true, true, true, true, true, true, true, true, true, true, true, true, true, true, true, false, false] rfl rfl (take_ofW HT_.out HW_.out (by kernel_rfl)) (fun _ _ _ h => h) (Or.inl ⟨by rfl, ?_⟩) hHeld ?_ ?_
                                  rotate_left
                                  · rintro w' ⟨s0, s1, s2, s3, s4, s5, s6, s7, s8, s9⟩
                                    go_simp
                                    with_reducible rfl
                                  rotate_left
                                  · simp only [Act.put, List.setIfInBounds_toArray, List.set_cons_zero, List.set_cons_succ, i64_w, i32_w]
                                    rfl
                                  refine one_ (i := 16) (N := some 67) #[true, true, true, true, true, true, true, true, true, true, true, true, true, true, true, true, true, false] rfl rfl (one_of HT_.out (by kernel_rfl)) (by decide) (fun K hK => ?_)
                                  refine goes_ Try.func61 (by kernel_rfl) rfl #[.slice A196_0 (rd_L4 (rd_L5 l0_2 x42_2) x48_3).length c196_0, .slice A198_0 (rd_L4 (rd_L5 l1_2 x42_2) x48_3).length c198_0] (by rfl) rfl rfl (by (try simp only [List.map_toArray, List.map_cons, List.map_nil]); first | done | rfl | (simp only [List.length_drop, List.length_take]; rfl)) ?_
                                  with_reducible refine (virgationref09_EqualMoves.calls k3 _ _ (rd_L4 (rd_L5 l0_2 x42_2) x48_3) _ _ (rd_L4 (rd_L5 l1_2 x42_2) x48_3) true _ ?side1 ?side2 ?side3 ?side4 A55.out).mono ?_
                                  (case side1 => repeat (first | exact (Kd.C_below HR196_0.out HB.out) | (with_reducible refine Kd.C_alloc ?_ _) | (with_reducible refine Kd.C_drewN ?_ _) | (with_reducible refine Kd.C_drew ?_)))
                                  (case side2 => exact HC196_0.out)
                                  (case side3 => repeat (first | exact (Kd.C_below HR198_0.out HB.out) | (with_reducible refine Kd.C_alloc ?_ _) | (with_reducible refine Kd.C_drewN ?_ _) | (with_reducible refine Kd.C_drew ?_)))
                                  (case side4 => exact HC198_0.out)
                                  rintro e w58 ⟨rfl, hb⟩
                                  refine ⟨_, rfl, ?_⟩
                                  have n0_ := Aside0.mk (blk_below (g := gb190) (o := .cells #[.slice A0_0 l0_0.length c0_0, .int .i64 a0_1, .slice (some ad195) l0_2.length c0_2] 44 (0, 0)) (by (with_reducible repeat (first | refine blk_drewN ?_ _ | refine blk_drew ?_ | refine blk_alloc ?_ _)); exact BK190.out) hb)
                                  have n1_ := Aside0.mk (blk_below (g := gb191) (o := .cells #[.slice A1_0 l1_0.length c1_0, .int .i64 a1_1, .slice (some ad197) l1_2.length c1_2] 44 (0, 0)) (by (with_reducible repeat (first | refine blk_drewN ?_ _ | refine blk_drew ?_ | refine blk_alloc ?_ _)); exact BK191.out) hb)
                                  have n2_ := Aside0.mk (below_step (by repeat (first | (with_reducible first | exact HB.out | apply below_alloc | apply pw_below_drewN | apply below_drew1 | refine below_set ?_ GE190.out | refine below_set ?_ GE191.out) | exact HB.out)) hb)
                                  clear BK190
                                  clear BK191
                                  clear HB
                                  have BK190 := n0_
                                  have BK191 := n1_
                                  have HB := n2_
                                  clear n0_ n1_ n2_
                                  (try clear hb)
                                  (try clear hb2)
                                  (try clear hk)
                                  (try clear hi)
                                  refine hK.out _ _ ⟨(blk_cell BK190.out 0).trans rfl, (blk_cell BK190.out 1).trans rfl, (blk_cell BK190.out 2).trans rfl, (blk_cell BK191.out 0).trans rfl, (blk_cell BK191.out 1).trans rfl, (blk_cell BK191.out 2).trans rfl, ((HB.out.cell (World.block_lt_of_cell? w _ hw195_0)).trans hw195_0), ((HB.out.cell (World.block_lt_of_cell? w _ hw196_0)).trans hw196_0), ((HB.out.cell (World.block_lt_of_cell? w _ hw197_0)).trans hw197_0), ((HB.out.cell (World.block_lt_of_cell? w _ hw198_0)).trans hw198_0)⟩ (fun hHeld => ?_)
                                  clear hK K
                                  refine norm_ (a' := ?_) ?_ ?_
                                  rotate_left
                                  · show Act.put _ (some 67) _ = _
                                    simp only [Act.put, List.setIfInBounds_toArray, List.set_cons_zero, List.set_cons_succ, i64_w, i32_w]
                                    rfl
                                  refine pure_ (i := 17) (N := some 68) (v := ?_) (a' := ?_) #[true, true, true, true, true, true, true, true, true, true, true, true, true, true, true, true, true, true] rfl rfl (any_of HT_.out (by kernel_rfl)) (fun _ _ _ h => h) (Or.inl ⟨by rfl, ?_⟩) ?_ ?_
                                  rotate_left
                                  · intro w'
                                    go_simp
                                    with_reducible rfl
                                  rotate_left
                                  · simp only [Act.put, List.setIfInBounds_toArray, List.set_cons_zero, List.set_cons_succ, i64_w, i32_w]
                                    rfl
                                  refine done_ (done_of HT_.out (by kernel_rfl)) ?_
                                  try go_wp2
                                  go_roundg k3
                                  case measure => have := HJ2.out; have := HK2.out; have := HK3.out; omega
                                  case rel => exact ⟨(wrap64 (x48_3 + 1)), (by first | rfl | (simp; done) | (simp [*]; done)), H', ⟨by have := HJ2.out; have := HK2.out; have := HK3.out; omega⟩, ⟨by (with_reducible repeat (first | refine blk_drewN ?_ _ | refine blk_drew ?_ | refine blk_alloc ?_ _)); exact BK190.out⟩, ⟨by (with_reducible repeat (first | refine blk_drewN ?_ _ | refine blk_drew ?_ | refine blk_alloc ?_ _)); exact BK191.out⟩, ⟨by repeat (first | (with_reducible first | exact HB.out | apply below_alloc | apply pw_below_drewN | apply below_drew1 | refine below_set ?_ GE190.out | refine below_set ?_ GE191.out) | exact HB.out)⟩⟩
                                · replace c56 := Bool.eq_false_iff.mpr c56
                                  subst c56
                                  have H1 : (some false) = some r := by rw [if_neg (show ¬ (false = true) by decide)] at H; exact H
                                  clear H
                                  have H := H1
                                  clear H1
                                  obtain rfl := Option.some.inj H
                                  try go_wp2
                                  have n0_ := Aside0.mk (blk_drew BK190.out)
                                  have n1_ := Aside0.mk (blk_drew BK191.out)
                                  have n2_ := Aside0.mk (below_drew1 HB.out)
                                  clear BK190
                                  clear BK191
                                  clear HB
                                  have BK190 := n0_
                                  have BK191 := n1_
                                  have HB := n2_
                                  clear n0_ n1_ n2_
                                  have p195 : 0 ≤ (x42_2 : Int) := of_decide_eq_true (by first | (with_reducible assumption) | assumption)
                                  have q195 : x42_2 < (l0_2.length : Int) := of_decide_eq_true (by first | (with_reducible assumption) | assumption)
                                  obtain ⟨ad195, A195_0, c195_0, e195, hx195_0, hl195_0, hi195_0⟩ := at_L5 HR0_2.out x42_2 p195 q195
                                  have hw195_0 := hx195_0
                                  cases e195
                                  replace hx195_0 := (HB.out.cell (World.block_lt_of_cell? w _ hx195_0)).trans hx195_0
                                  have HR195_0 := Aside0.mk hi195_0
                                  have HC195_0 := Aside0.mk hl195_0
                                  clear hi195_0 hl195_0
                                  replace p195 := eq_true p195
                                  replace q195 := eq_true q195
                                  have p196 : 0 ≤ (x48_3 : Int) := of_decide_eq_true (by first | (with_reducible assumption) | assumption)
                                  have q196 : x48_3 < ((rd_L5 l0_2 x42_2).length : Int) := of_decide_eq_true (by first | (with_reducible assumption) | assumption)
                                  obtain ⟨ad196, A196_0, c196_0, e196, hx196_0, hl196_0, hi196_0⟩ := at_L4 HR195_0.out x48_3 p196 q196
                                  have hw196_0 := hx196_0
                                  cases e196
                                  replace hx196_0 := (HB.out.cell (World.block_lt_of_cell? w _ hx196_0)).trans hx196_0
                                  have HR196_0 := Aside0.mk hi196_0
                                  have HC196_0 := Aside0.mk hl196_0
                                  clear hi196_0 hl196_0
                                  replace p196 := eq_true p196
                                  replace q196 := eq_true q196
                                  have p197 : 0 ≤ (x42_2 : Int) := of_decide_eq_true (by first | (with_reducible assumption) | assumption)
                                  have q197 : x42_2 < (l1_2.length : Int) := of_decide_eq_true (by first | (with_reducible assumption) | assumption)
                                  obtain ⟨ad197, A197_0, c197_0, e197, hx197_0, hl197_0, hi197_0⟩ := at_L5 HR1_2.out x42_2 p197 q197
                                  have hw197_0 := hx197_0
                                  cases e197
                                  replace hx197_0 := (HB.out.cell (World.block_lt_of_cell? w _ hx197_0)).trans hx197_0
                                  have HR197_0 := Aside0.mk hi197_0
                                  have HC197_0 := Aside0.mk hl197_0
                                  clear hi197_0 hl197_0
                                  replace p197 := eq_true p197
                                  replace q197 := eq_true q197
                                  have p198 : 0 ≤ (x48_3 : Int) := of_decide_eq_true (by first | (with_reducible assumption) | assumption)
                                  have q198 : x48_3 < ((rd_L5 l1_2 x42_2).length : Int) := of_decide_eq_true (by first | (with_reducible assumption) | assumption)
                                  obtain ⟨ad198, A198_0, c198_0, e198, hx198_0, hl198_0, hi198_0⟩ := at_L4 HR197_0.out x48_3 p198 q198
                                  have hw198_0 := hx198_0
                                  cases e198
                                  replace hx198_0 := (HB.out.cell (World.block_lt_of_cell? w _ hx198_0)).trans hx198_0
                                  have HR198_0 := Aside0.mk hi198_0
                                  have HC198_0 := Aside0.mk hl198_0
                                  clear hi198_0 hl198_0
                                  replace p198 := eq_true p198
                                  replace q198 := eq_true q198
                                  refine start_ (n := 18) (S := fun w' => w'.cell? ⟨gb190, 0, none⟩ = some (.slice A0_0 l0_0.length c0_0) ∧ w'.cell? ⟨gb190, 1, none⟩ = some (.int .i64 a0_1) ∧ w'.cell? ⟨gb190, 2, none⟩ = some (.slice (some ad195) l0_2.length c0_2) ∧ w'.cell? ⟨gb191, 0, none⟩ = some (.slice A1_0 l1_0.length c1_0) ∧ w'.cell? ⟨gb191, 1, none⟩ = some (.int .i64 a1_1) ∧ w'.cell? ⟨gb191, 2, none⟩ = some (.slice (some ad197) l1_2.length c1_2) ∧ w'.cell? (ad195.add (x42_2).toNat) = some (.slice (some ad196) (rd_L5 l0_2 x42_2).length c195_0) ∧ w'.cell? (ad196.add (x48_3).toNat) = some (.slice A196_0 (rd_L4 (rd_L5 l0_2 x42_2) x48_3).length c196_0) ∧ w'.cell? (ad197.add (x42_2).toNat) = some (.slice (some ad198) (rd_L5 l1_2 x42_2).length c197_0) ∧ w'.cell? (ad198.add (x48_3).toNat) = some (.slice A198_0 (rd_L4 (rd_L5 l1_2 x42_2) x48_3).length c198_0)) (ds := []) #[false, false, false, false, false, false, false, false, false, false, false, false, false, false, false, false, false, false] (by kernel_rfl) rfl rfl ⟨(blk_cell BK190.out 0).trans rfl, (blk_cell BK190.out 1).trans rfl, (blk_cell BK190.out 2).trans rfl, (blk_cell BK191.out 0).trans rfl, (blk_cell BK191.out 1).trans rfl, (blk_cell BK191.out 2).trans rfl, ((HB.out.cell (World.block_lt_of_cell? w _ hw195_0)).trans hw195_0), ((HB.out.cell (World.block_lt_of_cell? w _ hw196_0)).trans hw196_0), ((HB.out.cell (World.block_lt_of_cell? w _ hw197_0)).trans hw197_0), ((HB.out.cell (World.block_lt_of_cell? w _ hw198_0)).trans hw198_0)⟩ (fun hHeld => ?_); refine with_tabW virgationref09_Same.tab9 virgationref09_Same.bits9 (fun HT_ HW_ => ?_)
                                  generalize wr.drew = w59 at BK190 BK191 HB HR195_0 HR196_0 HR197_0 HR198_0 hx195_0 hx196_0 hx197_0 hx198_0 hHeld ⊢
                                  refine pure_ (i := 0) (N := some 51) (v := ?_) (a' := ?_) #[true, false, false, false, false, false, false, false, false, false, false, false, false, false, false, false, false, false] rfl rfl (any_of HT_.out (by kernel_rfl)) (fun _ _ _ h => h) (Or.inl ⟨by rfl, ?_⟩) ?_ ?_
                                  rotate_left
                                  · intro w'
                                    go_simp
                                    with_reducible rfl
                                  rotate_left
                                  · simp only [Act.put, List.setIfInBounds_toArray, List.set_cons_zero, List.set_cons_succ, i64_w, i32_w]
                                    rfl
                                  refine pure_ (i := 2) (N := some 53) (v := ?_) (a' := ?_) #[true, false, true, false, false, false, false, false, false, false, false, false, false, false, false, false, false, false] rfl rfl (any_of HT_.out (by kernel_rfl)) (fun _ _ _ h => h) (Or.inl ⟨by rfl, ?_⟩) ?_ ?_
                                  rotate_left
                                  · intro w'
                                    go_simp
                                    with_reducible rfl
                                  rotate_left
                                  · simp only [Act.put, List.setIfInBounds_toArray, List.set_cons_zero, List.set_cons_succ, i64_w, i32_w]
                                    rfl
                                  refine pure_ (i := 5) (N := some 56) (v := ?_) (a' := ?_) #[true, false, true, false, false, true, false, false, false, false, false, false, false, false, false, false, false, false] rfl rfl (any_of HT_.out (by kernel_rfl)) (fun _ _ _ h => h) (Or.inl ⟨by rfl, ?_⟩) ?_ ?_
                                  rotate_left
                                  · intro w'
                                    go_simp
                                    with_reducible rfl
                                  rotate_left
                                  · simp only [Act.put, List.setIfInBounds_toArray, List.set_cons_zero, List.set_cons_succ, i64_w, i32_w]
                                    rfl
                                  refine pure_ (i := 8) (N := some 59) (v := ?_) (a' := ?_) #[true, false, true, false, false, true, false, false, true, false, false, false, false, false, false, false, false, false] rfl rfl (any_of HT_.out (by kernel_rfl)) (fun _ _ _ h => h) (Or.inl ⟨by rfl, ?_⟩) ?_ ?_
                                  rotate_left
                                  · intro w'
                                    go_simp
                                    with_reducible rfl
                                  rotate_left
                                  · simp only [Act.put, List.setIfInBounds_toArray, List.set_cons_zero, List.set_cons_succ, i64_w, i32_w]
                                    rfl
                                  refine pure_ (i := 10) (N := some 61) (v := ?_) (a' := ?_) #[true, false, true, false, false, true, false, false, true, false, true, false, false, false, false, false, false, false] rfl rfl (any_of HT_.out (by kernel_rfl)) (fun _ _ _ h => h) (Or.inl ⟨by rfl, ?_⟩) ?_ ?_
                                  rotate_left
                                  · intro w'
                                    go_simp
                                    with_reducible rfl
                                  rotate_left
                                  · simp only [Act.put, List.setIfInBounds_toArray, List.set_cons_zero, List.set_cons_succ, i64_w, i32_w]
                                    rfl
                                  refine pure_ (i := 13) (N := some 64) (v := ?_) (a' := ?_) #[true, false, true, false, false, true, false, false, true, false, true, false, false, true, false, false, false, false] rfl rfl (any_of HT_.out (by kernel_rfl)) (fun _ _ _ h => h) (Or.inl ⟨by rfl, ?_⟩) ?_ ?_
                                  rotate_left
                                  · intro w'
                                    go_simp
                                    with_reducible rfl
                                  rotate_left
                                  · simp only [Act.put, List.setIfInBounds_toArray, List.set_cons_zero, List.set_cons_succ, i64_w, i32_w]
                                    rfl
                                  refine take_ (i := 1) (N := some 52) (v := ?_) (a' := ?_) #[true, true, true, false, false, true, false, false, true, false, true, false, false, true, false, false, false, false] rfl rfl (take_ofW HT_.out HW_.out (by kernel_rfl)) (fun _ _ _ h => h) (Or.inl ⟨by rfl, ?_⟩) hHeld ?_ ?_
                                  rotate_left
                                  · rintro w' ⟨s0, s1, s2, s3, s4, s5, s6, s7, s8, s9⟩
                                    go_simp
                                    with_reducible rfl
                                  rotate_left
                                  · simp only [Act.put, List.setIfInBounds_toArray, List.set_cons_zero, List.set_cons_succ, i64_w, i32_w]
                                    rfl
                                  refine pure_ (i := 3) (N := some 54) (v := ?_) (a' := ?_) #[true, true, true, true, false, true, false, false, true, false, true, false, false, true, false, false, false, false] rfl rfl (any_of HT_.out (by kernel_rfl)) (fun _ _ _ h => h) (Or.inl ⟨by rfl, ?_⟩) ?_ ?_
                                  rotate_left
                                  · intro w'
                                    go_simp
                                    with_reducible rfl
                                  rotate_left
                                  · simp only [Act.put, List.setIfInBounds_toArray, List.set_cons_zero, List.set_cons_succ, i64_w, i32_w]
                                    rfl
                                  refine take_ (i := 4) (N := some 55) (v := ?_) (a' := ?_) #[true, true, true, true, true, true, false, false, true, false, true, false, false, true, false, false, false, false] rfl rfl (take_ofW HT_.out HW_.out (by kernel_rfl)) (fun _ _ _ h => h) (Or.inl ⟨by rfl, ?_⟩) hHeld ?_ ?_
                                  rotate_left
                                  · rintro w' ⟨s0, s1, s2, s3, s4, s5, s6, s7, s8, s9⟩
                                    go_simp
                                    with_reducible rfl
                                  rotate_left
                                  · simp only [Act.put, List.setIfInBounds_toArray, List.set_cons_zero, List.set_cons_succ, i64_w, i32_w]
                                    rfl
                                  refine pure_ (i := 6) (N := some 57) (v := ?_) (a' := ?_) #[true, true, true, true, true, true, true, false, true, false, true, false, false, true, false, false, false, false] rfl rfl (any_of HT_.out (by kernel_rfl)) (fun _ _ _ h => h) (Or.inl ⟨by rfl, ?_⟩) ?_ ?_
                                  rotate_left
                                  · intro w'
                                    go_simp
                                    with_reducible rfl
                                  rotate_left
                                  · simp only [Act.put, List.setIfInBounds_toArray, List.set_cons_zero, List.set_cons_succ, i64_w, i32_w]
                                    rfl
                                  refine take_ (i := 7) (N := some 58) (v := ?_) (a' := ?_) #[true, true, true, true, true, true, true, true, true, false, true, false, false, true, false, false, false, false] rfl rfl (take_ofW HT_.out HW_.out (by kernel_rfl)) (fun _ _ _ h => h) (Or.inl ⟨by rfl, ?_⟩) hHeld ?_ ?_
                                  rotate_left
                                  · rintro w' ⟨s0, s1, s2, s3, s4, s5, s6, s7, s8, s9⟩
                                    go_simp
                                    with_reducible rfl
                                  rotate_left
                                  · simp only [Act.put, List.setIfInBounds_toArray, List.set_cons_zero, List.set_cons_succ, i64_w, i32_w]
                                    rfl
                                  refine take_ (i := 9) (N := some 60) (v := ?_) (a' := ?_) #[true, true, true, true, true, true, true, true, true, true, true, false, false, true, false, false, false, false] rfl rfl (take_ofW HT_.out HW_.out (by kernel_rfl)) (fun _ _ _ h => h) (Or.inl ⟨by rfl, ?_⟩) hHeld ?_ ?_
                                  rotate_left
                                  · rintro w' ⟨s0, s1, s2, s3, s4, s5, s6, s7, s8, s9⟩
                                    go_simp
                                    with_reducible rfl
                                  rotate_left
                                  · simp only [Act.put, List.setIfInBounds_toArray, List.set_cons_zero, List.set_cons_succ, i64_w, i32_w]
                                    rfl
                                  refine pure_ (i := 11) (N := some 62) (v := ?_) (a' := ?_) #[true, true, true, true, true, true, true, true, true, true, true, true, false, true, false, false, false, false] rfl rfl (any_of HT_.out (by kernel_rfl)) (fun _ _ _ h => h) (Or.inl ⟨by rfl, ?_⟩) ?_ ?_
                                  rotate_left
                                  · intro w'
                                    go_simp
                                    with_reducible rfl
                                  rotate_left
                                  · simp only [Act.put, List.setIfInBounds_toArray, List.set_cons_zero, List.set_cons_succ, i64_w, i32_w]
                                    rfl
                                  refine take_ (i := 12) (N := some 63) (v := ?_) (a' := ?_) #[true, true, true, true, true, true, true, true, true, true, true, true, true, true, false, false, false, false] rfl rfl (take_ofW HT_.out HW_.out (by kernel_rfl)) (fun _ _ _ h => h) (Or.inl ⟨by rfl, ?_⟩) hHeld ?_ ?_
                                  rotate_left
                                  · rintro w' ⟨s0, s1, s2, s3, s4, s5, s6, s7, s8, s9⟩
                                    go_simp
                                    with_reducible rfl
                                  rotate_left
                                  · simp only [Act.put, List.setIfInBounds_toArray, List.set_cons_zero, List.set_cons_succ, i64_w, i32_w]
                                    rfl
                                  refine pure_ (i := 14) (N := some 65) (v := ?_) (a' := ?_) #[true, true, true, true, true, true, true, true, true, true, true, true, true, true, true, false, false, false] rfl rfl (any_of HT_.out (by kernel_rfl)) (fun _ _ _ h => h) (Or.inl ⟨by rfl, ?_⟩) ?_ ?_
                                  rotate_left
                                  · intro w'
                                    go_simp
                                    with_reducible rfl
                                  rotate_left
                                  · simp only [Act.put, List.setIfInBounds_toArray, List.set_cons_zero, List.set_cons_succ, i64_w, i32_w]
                                    rfl
                                  refine take_ (i := 15) (N := some 66) (v := ?_) (a' := ?_) #[true, true, true, true, true, true, true, true, true, true, true, true, true, true, true, true, false, false] rfl rfl (take_ofW HT_.out HW_.out (by kernel_rfl)) (fun _ _ _ h => h) (Or.inl ⟨by rfl, ?_⟩) hHeld ?_ ?_
                                  rotate_left
                                  · rintro w' ⟨s0, s1, s2, s3, s4, s5, s6, s7, s8, s9⟩
                                    go_simp
                                    with_reducible rfl
                                  rotate_left
                                  · simp only [Act.put, List.setIfInBounds_toArray, List.set_cons_zero, List.set_cons_succ, i64_w, i32_w]
                                    rfl
                                  refine one_ (i := 16) (N := some 67) #[true, true, true, true, true, true, true, true, true, true, true, true, true, true, true, true, true, false] rfl rfl (one_of HT_.out (by kernel_rfl)) (by decide) (fun K hK => ?_)
                                  refine goes_ Try.func61 (by kernel_rfl) rfl #[.slice A196_0 (rd_L4 (rd_L5 l0_2 x42_2) x48_3).length c196_0, .slice A198_0 (rd_L4 (rd_L5 l1_2 x42_2) x48_3).length c198_0] (by rfl) rfl rfl (by (try simp only [List.map_toArray, List.map_cons, List.map_nil]); first | done | rfl | (simp only [List.length_drop, List.length_take]; rfl)) ?_
                                  with_reducible refine (virgationref09_EqualMoves.calls k3 _ _ (rd_L4 (rd_L5 l0_2 x42_2) x48_3) _ _ (rd_L4 (rd_L5 l1_2 x42_2) x48_3) false _ ?side1 ?side2 ?side3 ?side4 A55.out).mono ?_
                                  (case side1 => repeat (first | exact (Kd.C_below HR196_0.out HB.out) | (with_reducible refine Kd.C_alloc ?_ _) | (with_reducible refine Kd.C_drewN ?_ _) | (with_reducible refine Kd.C_drew ?_)))
                                  (case side2 => exact HC196_0.out)
                                  (case side3 => repeat (first | exact (Kd.C_below HR198_0.out HB.out) | (with_reducible refine Kd.C_alloc ?_ _) | (with_reducible refine Kd.C_drewN ?_ _) | (with_reducible refine Kd.C_drew ?_)))
                                  (case side4 => exact HC198_0.out)
                                  rintro e w60 ⟨rfl, hb⟩
                                  refine ⟨_, rfl, ?_⟩
                                  have n0_ := Aside0.mk (blk_below (g := gb190) (o := .cells #[.slice A0_0 l0_0.length c0_0, .int .i64 a0_1, .slice (some ad195) l0_2.length c0_2] 44 (0, 0)) (by (with_reducible repeat (first | refine blk_drewN ?_ _ | refine blk_drew ?_ | refine blk_alloc ?_ _)); exact BK190.out) hb)
                                  have n1_ := Aside0.mk (blk_below (g := gb191) (o := .cells #[.slice A1_0 l1_0.length c1_0, .int .i64 a1_1, .slice (some ad197) l1_2.length c1_2] 44 (0, 0)) (by (with_reducible repeat (first | refine blk_drewN ?_ _ | refine blk_drew ?_ | refine blk_alloc ?_ _)); exact BK191.out) hb)
                                  have n2_ := Aside0.mk (below_step (by repeat (first | (with_reducible first | exact HB.out | apply below_alloc | apply pw_below_drewN | apply below_drew1 | refine below_set ?_ GE190.out | refine below_set ?_ GE191.out) | exact HB.out)) hb)
                                  clear BK190
                                  clear BK191
                                  clear HB
                                  have BK190 := n0_
                                  have BK191 := n1_
                                  have HB := n2_
                                  clear n0_ n1_ n2_
                                  (try clear hb)
                                  (try clear hb2)
                                  (try clear hk)
                                  (try clear hi)
                                  refine hK.out _ _ ⟨(blk_cell BK190.out 0).trans rfl, (blk_cell BK190.out 1).trans rfl, (blk_cell BK190.out 2).trans rfl, (blk_cell BK191.out 0).trans rfl, (blk_cell BK191.out 1).trans rfl, (blk_cell BK191.out 2).trans rfl, ((HB.out.cell (World.block_lt_of_cell? w _ hw195_0)).trans hw195_0), ((HB.out.cell (World.block_lt_of_cell? w _ hw196_0)).trans hw196_0), ((HB.out.cell (World.block_lt_of_cell? w _ hw197_0)).trans hw197_0), ((HB.out.cell (World.block_lt_of_cell? w _ hw198_0)).trans hw198_0)⟩ (fun hHeld => ?_)
                                  clear hK K
                                  refine norm_ (a' := ?_) ?_ ?_
                                  rotate_left
                                  · show Act.put _ (some 67) _ = _
                                    simp only [Act.put, List.setIfInBounds_toArray, List.set_cons_zero, List.set_cons_succ, i64_w, i32_w]
                                    rfl
                                  refine pure_ (i := 17) (N := some 68) (v := ?_) (a' := ?_) #[true, true, true, true, true, true, true, true, true, true, true, true, true, true, true, true, true, true] rfl rfl (any_of HT_.out (by kernel_rfl)) (fun _ _ _ h => h) (Or.inl ⟨by rfl, ?_⟩) ?_ ?_
                                  rotate_left
                                  · intro w'
                                    go_simp
                                    with_reducible rfl
                                  rotate_left
                                  · simp only [Act.put, List.setIfInBounds_toArray, List.set_cons_zero, List.set_cons_succ, i64_w, i32_w]
                                    rfl
                                  refine done_ (done_of HT_.out (by kernel_rfl)) ?_
                                  try go_wp2
                                  go_ret
                                  exact ⟨by first | rfl | (simp [errW_none, errW_some] <;> rfl) | (simp [*, errW_none, errW_some] <;> rfl), by repeat (first | (with_reducible first | exact HB.out | apply below_alloc | apply pw_below_drewN | apply below_drew1 | refine below_set ?_ GE190.out | refine below_set ?_ GE191.out) | exact HB.out)⟩
                              · rw [if_neg c54] at H
                                exact absurd H (by simp)
                            · rw [if_neg c53] at H
                              exact absurd H (by simp)
                          · rw [if_neg c52] at H
                            exact absurd H (by simp)
                        · rw [if_neg c51] at H
                          exact absurd H (by simp)
                      · rw [if_neg c50] at H
                        exact absurd H (by simp)
                    · rw [if_neg c49] at H
                      exact absurd H (by simp)
                  · rw [if_neg c48] at H
                    have c48b0 : decide (x48_3 < (l0_0.length : Int)) = false := decide_eq_false c48
                    clear c48
                    have H' := Aside0.mk H
                    clear H
                    go_wp2
                    go_roundg k3
                    case measure => have := HJ2.out; have := HK2.out; have := HK3.out; omega
                    case rel => exact ⟨(wrap64 (x42_2 + 1)), (by first | rfl | (simp; done) | (simp [*]; done)), H', ⟨by have := HJ2.out; have := HK2.out; have := HK3.out; omega⟩, ⟨by (with_reducible repeat (first | refine blk_drewN ?_ _ | refine blk_drew ?_ | refine blk_alloc ?_ _)); exact BK190.out⟩, ⟨by (with_reducible repeat (first | refine blk_drewN ?_ _ | refine blk_drew ?_ | refine blk_alloc ?_ _)); exact BK191.out⟩, ⟨by repeat (first | (with_reducible first | exact HB.out | apply below_alloc | apply pw_below_drewN | apply below_drew1 | refine below_set ?_ GE190.out | refine below_set ?_ GE191.out) | exact HB.out)⟩⟩
            · rw [if_neg c45] at H
              have c45b0 : decide (x42_2 < (l0_2.length : Int)) = false := decide_eq_false c45
              clear c45
              obtain rfl := Option.some.inj H
              go_wp2
              go_ret
              exact ⟨by first | rfl | (simp [errW_none, errW_some] <;> rfl) | (simp [*, errW_none, errW_some] <;> rfl), by repeat (first | (with_reducible first | exact HB.out | apply below_alloc | apply pw_below_drewN | apply below_drew1 | refine below_set ?_ GE190.out | refine below_set ?_ GE191.out) | exact HB.out)⟩
end Go.Proofs.Ytmphigeefppfpaa.Q
namespace Go.Proofs.Ytmphigeefppfpaa.H
open Go.RowKit Go.Proofs.YtmphigeefppfpaaW.PrintWords Go.Proofs.YtmphigeefppfpaaW.PrintLast Go.Proofs.YtmphigeefppfpaaW.PrintMore
set_option linter.unusedVariables false
def ranksB (l : List Int) : Bool := (l.all fun r => decide (0 ≤ r) && decide (r ≤ 4)) && decide ((l.length : Int) ≤ 24)
theorem rk_l0 (l : List Int) (hm : l.length ≤ 9223372036854775807) (d : Nat) : ∀ j : Nat, l.length - j = d → j ≤ l.length →
    Ev (fun k => Q.tree_Ranks.l0 k l l (l.length : Int) (j : Int)) (((l.drop j).all fun r => decide (0 ≤ r) && decide (r ≤ 4)) && decide ((l.length : Int) ≤ 24)) := by
  induction d with
  | zero =>
    intro j hd hj
    refine ev_end fun k => ?_
    simp only [Q.tree_Ranks.l0]
    rw [if_neg (by omega), List.drop_eq_nil_of_le (by omega)]
    rfl
  | succ d ih =>
    intro j hd hj
    have hlt : j < l.length := by omega
    rw [all_drop hlt]
    have e : rd l (j : Int) = l[j] := rd_at hlt
    by_cases h1 : l[j] < 0
    · rw [decide_eq_false (by omega : ¬ 0 ≤ l[j])]
      refine ev_end fun k => ?_
      simp only [Q.tree_Ranks.l0]
      rw [if_pos (by omega), if_pos (by omega), if_pos (by omega), e, if_pos h1]; simp
    · by_cases h2 : l[j] > 4
      · rw [decide_eq_false (by omega : ¬ l[j] ≤ 4)]
        refine ev_end fun k => ?_
        simp only [Q.tree_Ranks.l0]
        rw [if_pos (by omega), if_pos (by omega), if_pos (by omega), e, if_neg h1, if_pos h2]; simp
      · rw [decide_eq_true (by omega : 0 ≤ l[j]), decide_eq_true (by omega : l[j] ≤ 4), Bool.true_and, Bool.true_and]
        refine ev_next (ih (j + 1) (by omega) (by omega)) fun k => ?_
        simp only [Q.tree_Ranks.l0]
        rw [if_pos (by omega), if_pos (by omega), if_pos (by omega), e, if_neg h1, if_neg h2, wrap_succ (by omega) (by omega)]
        rfl
theorem rk6_eq : ∀ (k : Nat) (x0 x5 : List Int) (x6 x7 : Int), Q.virgationref06_Ranks.l0 k x0 x5 x6 x7 = Q.tree_Ranks.l0 k x0 x5 x6 x7
  | 0, _, _, _, _ => rfl
  | k + 1, x0, x5, x6, x7 => by
    simp only [Q.virgationref06_Ranks.l0, Q.tree_Ranks.l0]
    rw [rk6_eq k]
theorem ranks_ev (l : List Int) (hm : l.length ≤ 9223372036854775807) : Ev (fun k => Q.tree_Ranks.f k l) (ranksB l) := rk_l0 l hm _ 0 rfl (Nat.zero_le _)
theorem ranks6_ev (l : List Int) (hm : l.length ≤ 9223372036854775807) : Ev (fun k => Q.virgationref06_Ranks.f k l) (ranksB l) :=
  Ev.congr (fun k => rk6_eq k l l (l.length : Int) 0) (ranks_ev l hm)
theorem ranks_calls (A : Option Addr) (c : Nat) (l : List Int) (w : World) (hr : Kd.C (Kd.int .i64) w A l.length l) (hc : l.length ≤ c) : Calls Try.prog 55 #[.slice A l.length c] w fun e w' => e = .returned (.bool (ranksB l)) ∧ Below w.heap.size w w' := by
  obtain ⟨k, hk⟩ := (ranks_ev l hr.2.1).rounds
  exact (Q.tree_Ranks.calls k A c l _ w hr hc hk).mono fun e w' h => ⟨h.1, h.2.below⟩
theorem ranks6_calls (A : Option Addr) (c : Nat) (l : List Int) (w : World) (hr : Kd.C (Kd.int .i64) w A l.length l) (hc : l.length ≤ c) : Calls Try.prog 58 #[.slice A l.length c] w fun e w' => e = .returned (.bool (ranksB l)) ∧ Below w.heap.size w w' := by
  obtain ⟨k, hk⟩ := (ranks6_ev l hr.2.1).rounds
  exact (Q.virgationref06_Ranks.calls k A c l _ w hr hc hk).mono fun e w' h => ⟨h.1, h.2.below⟩
def needL (r : Int) (tt : Int) : List Q.S78 := (List.range r.toNat).map fun (k : Nat) => ⟨(k : Int), tt⟩
def auGo (of steps : List Int) (q f : Nat) : Int := if rd of f ≥ 0 then rd steps (rd of f) else (q : Int)
def auAt (rk of steps : List Int) (q f : Nat) : List (List Q.S78) := if auGo of steps q f < 0 then [] else [needL (rd rk f) (auGo of steps q f)]
def auRow (rk of steps : List Int) (q m : Nat) : List (List (List Q.S78)) := (List.range m).map (auAt rk of steps q)
def auMoves (rk of : List Int) (g : List (List Int)) (m : Nat) : List (List (List (List Q.S78))) := (List.range m).map fun (q : Nat) => auRow rk of (Q.rd_L1 g (q : Int)) q rk.length
theorem needL_len (r tt : Int) : (needL r tt).length = r.toNat := by simp [needL]
theorem needL_at {r tt : Int} {i : Nat} (h : i < r.toNat) : Q.rd_T78 (needL r tt) (i : Int) = ⟨(i : Int), tt⟩ := by
  simp [Q.rd_T78, needL, List.getD_eq_getElem?_getD, h]
theorem before_self (a b : Int) : Ev (fun k => Q.virgationref09_Before.f k a b a b) 0 := by
  unfold Q.virgationref09_Before.f
  simp only [if_true, decide_eq_false (Int.lt_irrefl b)]
  refine ev_end fun k => ?_
  simp [Q.virgationref09_Before.j0]
theorem before_less {a b c d : Int} (h : a < c) : Ev (fun k => Q.virgationref09_Before.f k a b c d) (-1) := by
  unfold Q.virgationref09_Before.f
  simp only [if_neg (show ¬ a = c by omega), if_pos h]
  refine ev_end fun k => ?_
  simp [Q.virgationref09_Before.j0]
theorem compare_self (l : List Q.S78) (hm : l.length ≤ 9223372036854775807) (d : Nat) : ∀ j : Nat, l.length - j = d → j ≤ l.length → Ev (fun k => Q.virgationref09_Compare.l0 k l l (j : Int)) 0 := by
  induction d with
  | zero =>
    intro j hd hj
    have h : Ev (fun k => Q.virgationref09_Compare.j1 k l l (j : Int) false) 0 := ev_end fun k => by simp [Q.virgationref09_Compare.j1]
    refine ev_next h fun k => ?_
    simp only [Q.virgationref09_Compare.l0]
    rw [if_neg (by omega)]
  | succ d ih =>
    intro j hd hj
    have h : Ev (fun k => Q.virgationref09_Compare.j1 k l l (j : Int) true) 0 := by
      refine ev_next (f := fun k => (Q.virgationref09_Before.f k ((Q.rd_T78 l j).f0) ((Q.rd_T78 l j).f1) ((Q.rd_T78 l j).f0) ((Q.rd_T78 l j).f1)).bind fun t => if t = 0 then Q.virgationref09_Compare.l0 k l l ((j + 1 : Nat) : Int) else some t) (Ev.bind (before_self _ _) ?_) fun k => ?_
      · simp only [if_true]
        exact ih (j + 1) (by omega) (by omega)
      · simp only [Q.virgationref09_Compare.j1]
        rw [if_pos trivial, if_pos (by omega), if_pos (by omega), if_pos (by omega), wrap_succ (by omega) (by omega)]
        rfl
    refine ev_next h fun k => ?_
    simp only [Q.virgationref09_Compare.l0]
    rw [if_pos (by omega), decide_eq_true (by omega : (j : Int) < (l.length : Int))]
theorem alternative_ev (r tt n : Int) (h0 : 0 ≤ tt) (h1 : tt < n) (hr : r ≤ 1000) (d : Nat) : ∀ j : Nat, r.toNat - j = d → j ≤ r.toNat → Ev (fun k => Q.virgationref09_alternative.l0 k (needL r tt) r n (needL r tt) ((needL r tt).length : Int) (j : Int)) true := by
  have hl := needL_len r tt
  induction d with
  | zero =>
    intro j hd hj
    refine ev_end fun k => ?_
    simp only [Q.virgationref09_alternative.l0]
    rw [if_neg (by omega)]
  | succ d ih =>
    intro j hd hj
    have hjr : j < r.toNat := by omega
    have e := needL_at (tt := tt) hjr
    have ih' := ih (j + 1) (by omega) (by omega)
    by_cases hj0 : j = 0
    · subst hj0
      refine ev_next ih' fun k => ?_
      simp only [Q.virgationref09_alternative.l0]
      rw [e]
      simp only
      rw [if_pos (by omega), if_pos (by omega), if_pos (by omega), if_neg (by omega), if_neg (by omega), if_neg (by omega), if_neg (by omega), if_neg (by omega), wrap_succ (by omega) (by omega)]
      rfl
    · obtain ⟨i, rfl⟩ : ∃ i, j = i + 1 := ⟨j - 1, by omega⟩
      have e2 := needL_at (tt := tt) (show i < r.toNat by omega)
      have hw : wrap64 (((i + 1 : Nat) : Int) - 1) = (i : Int) := by unfold wrap64; omega
      refine ev_next (f := fun k => (Q.virgationref09_Before.f k (i : Int) tt ((i + 1 : Nat) : Int) tt).bind fun t => if t ≥ 0 then some false else Q.virgationref09_alternative.l0 k (needL r tt) r n (needL r tt) ((needL r tt).length : Int) ((i + 1 + 1 : Nat) : Int)) (Ev.bind (before_less (by omega)) ?_) fun k => ?_
      · simp only [show ¬ ((-1 : Int) ≥ 0) by omega, if_false]
        exact ih'
      · simp only [Q.virgationref09_alternative.l0]
        rw [hw, e, e2]
        simp only
        rw [if_pos (by omega), if_pos (by omega), if_pos (by omega), if_neg (by omega), if_neg (by omega), if_neg (by omega), if_neg (by omega), if_pos (by omega), if_pos (by omega), if_pos (by omega), wrap_succ (by omega) (by omega)]
        rfl
theorem alternatives_ev (rk of steps : List Int) (q f : Nat) (n : Int) (hr : rd rk f ≤ 1000) (hgo : auGo of steps q f < n) : Ev (fun k => Q.virgationref09_alternatives.f k (auAt rk of steps q f) (rd rk f) n) true := by
  unfold auAt
  by_cases hneg : auGo of steps q f < 0
  · rw [if_pos hneg]
    unfold Q.virgationref09_alternatives.f
    simp only [List.length_nil, if_neg (show ¬ (((0 : Nat) : Int) > 12) by decide)]
    refine ev_end fun k => ?_
    simp [Q.virgationref09_alternatives.l0]
  · rw [if_neg hneg]
    unfold Q.virgationref09_alternatives.f
    simp only [List.length_singleton, if_neg (show ¬ (((1 : Nat) : Int) > 12) by decide)]
    have h2 : Ev (fun k => Q.virgationref09_alternatives.l0 k [needL (rd rk f) (auGo of steps q f)] (rd rk f) n [needL (rd rk f) (auGo of steps q f)] 1 1) true := ev_end fun k => by simp [Q.virgationref09_alternatives.l0]
    refine ev_next (f := fun k => (Q.virgationref09_alternative.f k (needL (rd rk f) (auGo of steps q f)) (rd rk f) n).bind fun t => if t = true then Q.virgationref09_alternatives.l0 k [needL (rd rk f) (auGo of steps q f)] (rd rk f) n [needL (rd rk f) (auGo of steps q f)] 1 1 else some false) (Ev.bind (alternative_ev _ _ n (by omega) hgo hr _ 0 rfl (Nat.zero_le _)) ?_) fun k => ?_
    · simp only [if_true]
      exact h2
    · simp [Q.virgationref09_alternatives.l0, Q.rd_L3, wrap64]
theorem auRow_at {rk of steps : List Int} {q m f : Nat} (h : f < m) : Q.rd_L4 (auRow rk of steps q m) (f : Int) = auAt rk of steps q f := by
  simp [Q.rd_L4, auRow, List.getD_eq_getElem?_getD, h]
theorem auMoves_at {rk of : List Int} {g : List (List Int)} {m q : Nat} (h : q < m) : Q.rd_L5 (auMoves rk of g m) (q : Int) = auRow rk of (Q.rd_L1 g q) q rk.length := by
  simp [Q.rd_L5, auMoves, List.getD_eq_getElem?_getD, h]
theorem auRow_len (rk of steps : List Int) (q m : Nat) : (auRow rk of steps q m).length = m := by simp [auRow]
theorem auMoves_len (rk of : List Int) (g : List (List Int)) (m : Nat) : (auMoves rk of g m).length = m := by simp [auMoves]
section
variable {rk of : List Int} {g : List (List Int)}
structure AuOk (rk of : List Int) (g : List (List Int)) : Prop where
  hr : ranksB rk = true
  hn : 1 ≤ g.length ∧ g.length ≤ 6
  hgo : ∀ q f : Nat, q < g.length → f < rk.length → auGo of (Q.rd_L1 g q) q f < (g.length : Int)
theorem AuOk.len (h : AuOk rk of g) : rk.length ≤ 24 ∧ ∀ f : Nat, f < rk.length → 0 ≤ rd rk f ∧ rd rk f ≤ 4 := by
  have := h.hr
  simp only [ranksB, Bool.and_eq_true, List.all_eq_true, decide_eq_true_eq] at this
  refine ⟨by omega, fun f hf => ?_⟩
  rw [rd_at hf]
  exact this.1 _ (List.getElem_mem hf)
theorem is9_ev (h : AuOk rk of g) : Ev (fun k => Q.virgationref09_Is.f k rk 0 (auMoves rk of g g.length)) true := by
  obtain ⟨hl, hrk⟩ := h.len
  have hM := auMoves_len rk of g g.length
  obtain ⟨hn1, hn2⟩ := h.hn
  have key : ∀ d : Nat, ∀ q : Nat, g.length - q = d → q ≤ g.length → Ev (fun k => Q.virgationref09_Is.l0 k (g.length : Int) (auMoves rk of g g.length) ((auMoves rk of g g.length).length : Int) (q : Int) rk 0 (auMoves rk of g g.length)) true := by
    intro d
    induction d with
    | zero =>
      intro q hd hq
      refine ev_end fun k => ?_
      simp only [Q.virgationref09_Is.l0]
      rw [if_neg (by omega)]
    | succ d ih =>
      intro q hd hq
      have hqg : q < g.length := by omega
      have hq5 := auMoves_at (rk := rk) (of := of) (g := g) hqg
      have hrl := auRow_len rk of (Q.rd_L1 g q) q rk.length
      have inner : ∀ d2 : Nat, ∀ f : Nat, rk.length - f = d2 → f ≤ rk.length → Ev (fun k => Q.virgationref09_Is.l1 k (g.length : Int) (auMoves rk of g g.length) ((auMoves rk of g g.length).length : Int) (q : Int) (auRow rk of (Q.rd_L1 g q) q rk.length) ((auRow rk of (Q.rd_L1 g q) q rk.length).length : Int) (f : Int) rk 0 (auMoves rk of g g.length)) true := by
        intro d2
        induction d2 with
        | zero =>
          intro f hd2 hf
          refine ev_next (ih (q + 1) (by omega) (by omega)) fun k => ?_
          simp only [Q.virgationref09_Is.l1]
          rw [if_neg (by omega), wrap_succ (by omega) (by omega)]
          rfl
        | succ d2 ih2 =>
          intro f hd2 hf
          have hfl : f < rk.length := by omega
          refine ev_next (f := fun k => (Q.virgationref09_alternatives.f k (auAt rk of (Q.rd_L1 g q) q f) (rd rk f) (g.length : Int)).bind fun t => if t = true then Q.virgationref09_Is.l1 k (g.length : Int) (auMoves rk of g g.length) ((auMoves rk of g g.length).length : Int) (q : Int) (auRow rk of (Q.rd_L1 g q) q rk.length) ((auRow rk of (Q.rd_L1 g q) q rk.length).length : Int) ((f + 1 : Nat) : Int) rk 0 (auMoves rk of g g.length) else some false) (Ev.bind (alternatives_ev rk of (Q.rd_L1 g q) q f (g.length : Int) (by have := hrk f hfl; omega) (h.hgo q f hqg hfl)) ?_) fun k => ?_
          · simp only [if_true]
            exact ih2 (f + 1) (by omega) (by omega)
          · simp only [Q.virgationref09_Is.l1]
            rw [auRow_at hfl, if_pos (by omega), if_pos (by omega), if_pos (by omega), if_pos (by omega), wrap_succ (by omega) (by omega)]
            rfl
      refine ev_next (inner _ 0 rfl (Nat.zero_le _)) fun k => ?_
      simp only [Q.virgationref09_Is.l0]
      rw [hq5, if_pos (by omega), if_pos (by omega), if_pos (by omega), if_pos (by omega)]
      rfl
  unfold Q.virgationref09_Is.f
  refine Ev.bind (ranks6_ev rk (by omega)) ?_
  rw [h.hr]
  simp only [if_true]
  simp only [hM, if_neg (show ¬ (g.length : Int) < 1 by omega), if_neg (show ¬ (g.length : Int) > 6 by omega), if_neg (show ¬ (0 : Int) < 0 by omega), decide_eq_false (show ¬ (0 : Int) ≥ (g.length : Int) by omega)]
  refine ev_next (key _ 0 rfl (Nat.zero_le _)) fun k => ?_
  simp only [Q.virgationref09_Is.j0]
  rw [if_neg (by simp), hM]
  rfl
theorem sameRanks_ev (l : List Int) (hm : l.length ≤ 9223372036854775807) (d : Nat) : ∀ j : Nat, l.length - j = d → j ≤ l.length → Ev (fun k => Q.virgationref09_SameRanks.l0 k l l (l.length : Int) (j : Int)) true := by
  induction d with
  | zero =>
    intro j hd hj
    refine ev_end fun k => ?_
    simp only [Q.virgationref09_SameRanks.l0]
    rw [if_neg (by omega)]
  | succ d ih =>
    intro j hd hj
    refine ev_next (ih (j + 1) (by omega) (by omega)) fun k => ?_
    simp only [Q.virgationref09_SameRanks.l0]
    rw [if_pos (by omega), if_pos (by omega), if_pos (by omega), if_pos (by omega), if_pos trivial, wrap_succ (by omega) (by omega)]
    rfl
theorem equalMoves_ev (l : List (List Q.S78)) (hm : l.length ≤ 1000) (hl : ∀ x ∈ l, x.length ≤ 1000) : Ev (fun k => Q.virgationref09_EqualMoves.f k l l) true := by
  have key : ∀ d : Nat, ∀ j : Nat, l.length - j = d → j ≤ l.length → Ev (fun k => Q.virgationref09_EqualMoves.l0 k l l (l.length : Int) (j : Int)) true := by
    intro d
    induction d with
    | zero =>
      intro j hd hj
      refine ev_end fun k => ?_
      simp only [Q.virgationref09_EqualMoves.l0]
      rw [if_neg (by omega)]
    | succ d ih =>
      intro j hd hj
      have hj2 : j < l.length := by omega
      have e : Q.rd_L3 l (j : Int) = l[j] := by simp [Q.rd_L3, List.getD_eq_getElem?_getD, List.getElem?_eq_getElem hj2]
      refine ev_next (f := fun k => (Q.virgationref09_Compare.f k l[j] l[j]).bind fun t => if t = 0 then Q.virgationref09_EqualMoves.l0 k l l (l.length : Int) ((j + 1 : Nat) : Int) else some false) (Ev.bind (show Ev (fun k => Q.virgationref09_Compare.f k l[j] l[j]) 0 from compare_self l[j] (by have := hl _ (List.getElem_mem hj2); omega) _ 0 rfl (Nat.zero_le _)) ?_) fun k => ?_
      · simp only [if_true]
        exact ih (j + 1) (by omega) (by omega)
      · simp only [Q.virgationref09_EqualMoves.l0]
        rw [e, if_pos (by omega), if_pos (by omega), if_pos (by omega), if_pos (by omega), wrap_succ (by omega) (by omega)]
        rfl
  unfold Q.virgationref09_EqualMoves.f
  simp only [if_true]
  exact key _ 0 rfl (Nat.zero_le _)
theorem same9_ev (h : AuOk rk of g) : Ev (fun k => Q.virgationref09_Same.f k rk 0 (auMoves rk of g g.length) rk 0 (auMoves rk of g g.length)) true := by
  obtain ⟨hl, hrk⟩ := h.len
  have hM := auMoves_len rk of g g.length
  obtain ⟨hn1, hn2⟩ := h.hn
  have key : ∀ d : Nat, ∀ q : Nat, g.length - q = d → q ≤ g.length → Ev (fun k => Q.virgationref09_Same.l0 k (g.length : Int) (q : Int) rk 0 (auMoves rk of g g.length) rk 0 (auMoves rk of g g.length)) true := by
    intro d
    induction d with
    | zero =>
      intro q hd hq
      refine ev_end fun k => ?_
      simp only [Q.virgationref09_Same.l0]
      rw [if_neg (by omega)]
    | succ d ih =>
      intro q hd hq
      have hqg : q < g.length := by omega
      have hq5 := auMoves_at (rk := rk) (of := of) (g := g) hqg
      have hrl := auRow_len rk of (Q.rd_L1 g q) q rk.length
      have inner : ∀ d2 : Nat, ∀ f : Nat, rk.length - f = d2 → f ≤ rk.length → Ev (fun k => Q.virgationref09_Same.l1 k (q : Int) (g.length : Int) (q : Int) (rk.length : Int) (f : Int) rk 0 (auMoves rk of g g.length) rk 0 (auMoves rk of g g.length)) true := by
        intro d2
        induction d2 with
        | zero =>
          intro f hd2 hf
          refine ev_next (ih (q + 1) (by omega) (by omega)) fun k => ?_
          simp only [Q.virgationref09_Same.l1]
          rw [if_neg (by omega), wrap_succ (by omega) (by omega)]
          rfl
        | succ d2 ih2 =>
          intro f hd2 hf
          have hfl : f < rk.length := by omega
          have hem : Ev (fun k => Q.virgationref09_EqualMoves.f k (auAt rk of (Q.rd_L1 g q) q f) (auAt rk of (Q.rd_L1 g q) q f)) true := by
            refine equalMoves_ev _ ?_ ?_
            · unfold auAt; split <;> simp
            · unfold auAt
              split
              · simp
              · intro x hx
                rw [List.mem_singleton.1 hx, needL_len]
                have := hrk f hfl
                omega
          refine ev_next (f := fun k => (Q.virgationref09_EqualMoves.f k (auAt rk of (Q.rd_L1 g q) q f) (auAt rk of (Q.rd_L1 g q) q f)).bind fun t => if t = true then Q.virgationref09_Same.l1 k (q : Int) (g.length : Int) (q : Int) (rk.length : Int) ((f + 1 : Nat) : Int) rk 0 (auMoves rk of g g.length) rk 0 (auMoves rk of g g.length) else some false) (Ev.bind hem ?_) fun k => ?_
          · simp only [if_true]
            exact ih2 (f + 1) (by omega) (by omega)
          · simp only [Q.virgationref09_Same.l1]
            rw [hq5, auRow_at hfl, if_pos (by omega), if_pos (by omega), if_pos (by omega), if_pos (by omega), if_pos (by omega), if_pos (by omega), if_pos (by omega), wrap_succ (by omega) (by omega)]
            rfl
      refine ev_next (inner _ 0 rfl (Nat.zero_le _)) fun k => ?_
      simp only [Q.virgationref09_Same.l0]
      rw [if_pos (by omega)]
      rfl
  unfold Q.virgationref09_Same.f
  refine Ev.bind (is9_ev h) ?_
  simp only [if_true]
  refine Ev.bind (is9_ev h) ?_
  simp only [if_true]
  unfold Q.virgationref09_SameRanks.f
  simp only [if_true]
  refine Ev.bind (sameRanks_ev rk (by omega) _ 0 rfl (Nat.zero_le _)) ?_
  simp only [if_true]
  rw [hM]
  refine ev_next (key _ 0 rfl (Nat.zero_le _)) fun k => ?_
  simp only [Q.virgationref09_Same.j0]
  rw [if_neg (by simp), hM]
  rfl
end
end Go.Proofs.Ytmphigeefppfpaa.H
namespace Go.Proofs.Ytmphigeefppfpaa.H
open Go.RowKit Go.Proofs.YtmphigeefppfpaaW.PrintWords Go.Proofs.YtmphigeefppfpaaW.PrintLast Go.Proofs.YtmphigeefppfpaaW.PrintMore
set_option linter.unusedVariables false
abbrev kA1 : Kd (List Q.S78) := Kd.slice 78 Q.k78
abbrev kA2 : Kd (List (List Q.S78)) := Kd.slice 76 kA1
abbrev kA3 : Kd (List (List (List Q.S78))) := Kd.slice 79 kA2
theorem info78 : (Try.prog.info? 78).map (fun i => (i.zero, i.size, i.bytes)) = some (some (.agg #[.int .i64 0, .int .i64 0]), 2, 16) := by kernel_rfl
theorem info76 : (Try.prog.info? 76).map (fun i => (i.zero, i.size, i.bytes)) = some (some (.slice none 0 0), 1, 24) := by kernel_rfl
theorem info79 : (Try.prog.info? 79).map (fun i => (i.zero, i.size, i.bytes)) = some (some (.slice none 0 0), 1, 24) := by kernel_rfl
theorem info75 : (Try.prog.info? 75).map (fun i => (i.zero, i.size, i.bytes)) = some (some (.slice none 0 0), 1, 24) := by kernel_rfl
section
variable {α : Type} {d : Kd α} {e t base n cap g : Nat} {S ok okp : Nat → Prop} {W : World} {v : Value} {x : List α} {xs : List (List α)}
theorem R_one (h : d.R e W base S v x) (hb : base ≤ W.heap.size) : (Kd.slice e d).R t (W.alloc (.cells #[v] t)) base (fun k => S k ∨ k = W.heap.size) (.slice (some ⟨W.heap.size, 0, none⟩) 1 1) [x] := by
  refine ⟨fun k hk => ?_, [v], ⟨by rfl, .inr ⟨W.heap.size, 1, #[v], rfl, hb, blk_new _ _, by simp, by decide, by simp [Kd.slice], by simp [Kd.slice]⟩⟩, ?_⟩
  · have : W.heap.size = k := by simpa [Value.ownBlock] using hk
    exact .inr this.symm
  · refine (Reps.none _ _).snoc ⟨v, rfl, ?_⟩ rfl
    refine Kd.R_mono (Kd.R_alloc (Kd.R_bound h) _) (fun k hk => ⟨.inl hk.1, fun he => ?_⟩)
    have h1 := hk.2.2.1
    have : k = W.heap.size := by simpa [Value.ownBlock] using he
    omega
theorem R_puts (h : (Kd.slice e d).R t W base ok (.slice (some ⟨g, 0, none⟩) n cap) xs) (i : Nat) (hi : i < n) (hv : d.R e W base okp v x) (hokp : ∀ k, okp k → ok k ∧ k ≠ g) :
    (Kd.slice e d).R t (W.setCell ⟨g, i, none⟩ v) base ok (.slice (some ⟨g, 0, none⟩) n cap) (xs.set i x) ∧ W.grownBy (W.setCell ⟨g, i, none⟩ v) (some g) := by
  obtain ⟨c, hcl, _, hcc, _⟩ := Kd.R_elem h [] (i : Int) (by omega) (by omega)
  have hs : (Kd.slice e d).sz = 1 := rfl
  have := Kd.R_seg h (i : Int) (by omega) (by omega) (c := c) (seg := [v]) (j := 0) hcl hcc (by rw [hs]; exact Nat.le_refl _) (x' := x) (okp := okp) (by
    rw [hs] at hcl
    rw [List.take_zero, List.nil_append, List.drop_eq_nil_of_le (by simp; omega), List.append_nil]
    exact ⟨v, rfl, hv⟩) hokp
  rw [hs, Int.toNat_natCast, Nat.mul_one, Nat.add_zero] at this
  exact this
theorem R_cell1 (h : (Kd.slice e d).R t W base ok (.slice (some ⟨g, 0, none⟩) n cap) xs) (i : Nat) (hi : i < n) : ∃ u, W.cell? ⟨g, i, none⟩ = some u ∧ W.frozen? ⟨g, i, none⟩ = false ∧ u.cells.size = 1 := by
  obtain ⟨c, hcl, hM, hcc, hf⟩ := Kd.R_elem h [] (i : Int) (by omega) (by omega)
  obtain ⟨u, rfl, hR⟩ := hM
  have hs : (Kd.slice e d).sz = 1 := rfl
  have h0 := hcc 0 u rfl
  have h1 := hf 0
  rw [hs, Int.toNat_natCast, Nat.mul_one, Nat.add_zero] at h0 h1
  obtain ⟨A, cc, rfl⟩ := Kd.R_slice hR
  exact ⟨_, h0, h1, rfl⟩
theorem R_empty (d : Kd α) (W : World) (base : Nat) (hb : base ≤ W.heap.size) : d.R e (W.alloc (.cells #[] e)) base (fun k => k = W.heap.size) (.slice (some ⟨W.heap.size, 0, none⟩) 0 0) [] := by
  refine ⟨fun k hk => ?_, [], ⟨by simp, .inr ⟨W.heap.size, 0, #[], rfl, hb, blk_new _ _, by simp, by decide, by simp, by simp⟩⟩, Reps.none _ _⟩
  have : W.heap.size = k := by simpa [Value.ownBlock] using hk
  exact this.symm
theorem set_row {n f : Nat} {r : List (List α)} (hr : r.length = f) (hf : f < n) (y : List α) : (r ++ List.replicate (n - f) []).set f y = (r ++ [y]) ++ List.replicate (n - (f + 1)) [] := by
  obtain ⟨m, hm⟩ : ∃ m, n - f = m + 1 := ⟨n - f - 1, by omega⟩
  rw [hm, show n - (f + 1) = m from by omega, List.set_append_right _ _ (by omega), hr, Nat.sub_self, List.replicate_succ, List.set_cons_zero, List.append_assoc]
  rfl
end
def CloneEnd (xs : List Int) (w : World) (E : Ending) (w' : World) : Prop := ∃ (v : Value) (S : Nat → Prop), E = .returned v ∧ Kd.R (Kd.int .i64) 3 w' w.heap.size S v xs ∧ Below w.heap.size w w'
set_option maxHeartbeats 1000000 in
set_option maxRecDepth 100000 in
theorem clone_calls (A : Option Addr) (c : Nat) (xs : List Int) (w : World) (hr : Kd.C (Kd.int .i64) w A xs.length xs) (hm : xs.length * 8 ≤ 140737488355328) : Calls Try.prog 57 #[.slice A xs.length c] w (CloneEnd xs w) := by
  have HR := Aside0.mk hr
  cases A with
  | none =>
    have h0 : xs.length = 0 := by
      rcases Nat.eq_zero_or_pos xs.length with h | h
      · exact h
      · obtain ⟨_, h1, _⟩ := hr.2.2 h
        cases h1
    have hx : xs = [] := List.eq_nil_of_length_eq_zero h0
    subst hx
    clear hr h0 hm HR
    have he := fun W : World => Lib.run_eql_slice_nil (P := Try.prog) W 25 3 none 0 c 0 0 Try.underlying25
    go_enter Try.func57, Try.ntmps57
    go_wp2
    go_ret
    exact ⟨_, fun _ => False, rfl, Kd.R_nil _ _ _ _ _, Below.refl _ _⟩
  | some ad =>
    clear hr
    have he := fun W : World => Lib.run_eql_slice_nil (P := Try.prog) W 25 3 (some ad) xs.length c 0 0 Try.underlying25
    go_enter Try.func57, Try.ntmps57
    go_wp2_with ((with_reducible refine gate_builtin (b := .append) (xs := #[.tmp 5, .tmp 6]) rfl ?_); refine Kd.R_append_rows (Kd.int .i64) (Rr := fun x cs => cs = [Value.int .i64 x]) (w0 := w) w.heap.size rfl (.tmp 5) (.tmp 6) 25 3 (.int .i64 0) 8 rfl Try.underlying25 info3 rfl (by decide) (by omega) (.slice (some ⟨w.heap.size, 0, none⟩) 0 0) [] xs (some ad) xs.length c (fun k => w.heap.size ≤ k) (fun _ => False) rfl rfl ?m1 ?m2 (fun _ _ h => h) (fun _ hk => hk.elim) ?m3 ?m4 ?m5 ?m6 ?_; (case m1 => exact Kd.R_mono (R_empty (Kd.int .i64) w w.heap.size (Nat.le_refl _)) (fun k hk => by omega)); (case m2 => exact Kd.C_below HR.out (below_alloc (Below.refl _ _) _)); (case m3 => intro k hk; simp at hk; omega); (case m4 => exact below_alloc (Below.refl _ _) _); (case m5 => simp); (case m6 => simp; omega); intro v1 w1 hr1 hb1 hg1 hat1; have HR1 := Aside0.mk hr1; have HB1 := Aside0.mk hb1; clear hr1 hb1 hg1 hat1)
    go_ret
    exact ⟨_, _, rfl, HR1.out, HB1.out⟩
structure AS (w W : World) (bs : List (Nat × Array Value)) (ob B1 : Nat) (rv gv mv bv : Value) (Sm : Nat → Prop) (rk : List Int) (g : List (List Int)) (M : List (List (List (List Q.S78)))) : Prop where
  hb : Below w.heap.size w W
  hbs : ∀ p ∈ bs, W.heap[p.1]? = some (.cells p.2 24 (0, 0)) ∧ p.1 < B1 ∧ p.1 ≠ ob
  hr : W.heap[w.heap.size + 1]? = some (.cells #[.slice none 0 0, .int .i64 0, .slice none 0 0] 44 (0, 0))
  ho : W.heap[ob]? = some (.cells #[rv, .int .i64 0, bv] 44 (0, 0))
  h1 : w.heap.size + 1 < ob ∧ ob < B1 ∧ B1 ≤ W.heap.size
  hRk : Kd.R (Kd.int .i64) 3 W w.heap.size (fun k => k < B1) rv rk
  hg : Kd.R (Kd.slice 3 (Kd.int .i64)) 25 W w.heap.size (fun k => k < B1) gv g
  hM : Kd.R kA3 75 W B1 Sm mv M
section
variable {w W W1 : World} {bs : List (Nat × Array Value)} {ob B1 : Nat} {rv gv mv bv mv1 : Value} {Sm Sw Sl : Nat → Prop} {rk : List Int} {g : List (List Int)} {M M1 : List (List (List (List Q.S78)))}
theorem AS.below (h : AS w W bs ob B1 rv gv mv bv Sm rk g M) (hb : Below W.heap.size W W1) : AS w W1 bs ob B1 rv gv mv bv Sm rk g M :=
  ⟨below_then h.hb h.hb.size hb, fun p hp => ⟨blk_below (h.hbs p hp).1 hb, (h.hbs p hp).2⟩, blk_below h.hr hb, blk_below h.ho hb, ⟨h.h1.1, h.h1.2.1, Nat.le_trans h.h1.2.2 hb.size⟩, Kd.R_below h.hRk hb, Kd.R_below h.hg hb, Kd.R_below h.hM hb⟩
theorem AS.grown {row : Option Nat} (h : AS w W bs ob B1 rv gv mv bv Sm rk g M) (hg : W.grownBy W1 row) (hne : ∀ k, row = some k → B1 ≤ k ∧ ¬ Sm k) : AS w W1 bs ob B1 rv gv mv bv Sm rk g M := by
  obtain ⟨a1, a2, a3⟩ := h.h1
  have hlt : ∀ b, b < B1 → some b ≠ row := fun b hb e => by have := (hne b e.symm).1; omega
  exact ⟨pw_below_grown h.hb _ h.hb.size hg (fun k hk => by have := (hne k hk).1; omega), fun p hp => ⟨blk_grown (h.hbs p hp).1 hg (hlt _ (h.hbs p hp).2.1), (h.hbs p hp).2⟩, blk_grown h.hr hg (hlt _ (by omega)), blk_grown h.ho hg (hlt _ a2), ⟨a1, a2, Nat.le_trans a3 hg.size⟩,
    R_low h.hRk hg (fun k hk => (hne k hk).1), R_low h.hg hg (fun k hk => (hne k hk).1), Kd.R_grown h.hM hg (fun k hk e => (hne k e.symm).2 hk)⟩
theorem AS.appM {ok : Nat → Prop} (h : AS w W bs ob B1 rv gv mv bv Sm rk g M) (hq : Kd.R kA3 75 W1 B1 ok mv1 M1) (hg : W.grownBy W1 mv.ownBlock) : AS w W1 bs ob B1 rv gv mv1 bv ok rk g M1 := by
  obtain ⟨a1, a2, a3⟩ := h.h1
  have hbase := Kd.R_base h.hM
  have hlt : ∀ b, b < B1 → some b ≠ mv.ownBlock := fun b hb e => by have := hbase b e.symm; omega
  exact ⟨pw_below_grown h.hb _ h.hb.size hg (fun k hk => by have := hbase k hk; omega), fun p hp => ⟨blk_grown (h.hbs p hp).1 hg (hlt _ (h.hbs p hp).2.1), (h.hbs p hp).2⟩, blk_grown h.hr hg (hlt _ (by omega)), blk_grown h.ho hg (hlt _ a2), ⟨a1, a2, Nat.le_trans a3 hg.size⟩,
    R_low h.hRk hg hbase, R_low h.hg hg hbase, hq⟩
theorem AS.put (h : AS w W bs ob B1 rv gv mv bv Sm rk g M) (bv1 : Value) : AS w (W.setCell ⟨ob, 2, none⟩ bv1) bs ob B1 rv gv mv bv1 Sm rk g M := by
  obtain ⟨a1, a2, a3⟩ := h.h1
  have hg := grown_setCell W ⟨ob, 2, none⟩ bv1
  exact ⟨pw_below_grown h.hb _ h.hb.size hg (fun k hk => by cases hk; show _ ≤ ob; omega), fun p hp => ⟨blk_grown (h.hbs p hp).1 hg (fun e => by injection e with e; exact (h.hbs p hp).2.2 e), (h.hbs p hp).2⟩, blk_grown h.hr hg (fun e => by injection e with e; have e2 : w.heap.size + 1 = ob := e; omega), blk_set h.ho 2 bv1, ⟨a1, a2, Nat.le_trans a3 hg.size⟩,
    R_offrow h.hRk h.ho (by simp [Kd.int, Kd.scalar]) hg, R_offrow h.hg h.ho (by simp [Kd.slice, Kd.int, Kd.scalar]) hg, R_offrow h.hM h.ho (by simp [Kd.slice, Q.k78, Kd.iso, Kd.pair, Kd.int, Kd.scalar]) hg⟩
end
def auBad (ev x : Int) : Bool := decide (x < -1) || decide (x ≥ ev)
def auArgs (ev : Int) (rk of : List Int) : Bool := ranksB rk && decide (of.length = rk.length) && !(of.any (auBad ev))
noncomputable def auErr (ev st : Int) (l : List (List Int)) (rk of : List Int) : Int := if specOk ev st l then (if auArgs ev rk of then (if 6 < (leastRows ev st l).length then 3 else 0) else 2) else 11
noncomputable def auRk (ev st : Int) (l : List (List Int)) (rk of : List Int) : List Int := if auErr ev st l rk of = 0 then rk else []
noncomputable def auM (ev st : Int) (l : List (List Int)) (rk of : List Int) : List (List (List (List Q.S78))) := if auErr ev st l rk of = 0 then auMoves rk of (leastRows ev st l) (leastRows ev st l).length else []
def AuEnd (err : Int) (rk : List Int) (M : List (List (List (List Q.S78)))) (w : World) (E : Ending) (w' : World) : Prop :=
  ∃ (A1 A2 : Option Addr) (c1 c2 : Nat) (S1 S2 : Nat → Prop), E = .returned (.tuple #[.agg #[.slice A1 rk.length c1, .int .i64 0, .slice A2 M.length c2], .int .i64 err]) ∧ Kd.R (Kd.int .i64) 3 w' w.heap.size S1 (.slice A1 rk.length c1) rk ∧ Kd.R kA3 75 w' w.heap.size S2 (.slice A2 M.length c2) M ∧ Below w.heap.size w w'
end Go.Proofs.Ytmphigeefppfpaa.H
namespace Go.Proofs.Ytmphigeefppfpaa.H
open Go.RowKit Go.Proofs.YtmphigeefppfpaaW.PrintWords Go.Proofs.YtmphigeefppfpaaW.PrintLast Go.Proofs.YtmphigeefppfpaaW.PrintMore
set_option linter.unusedVariables false
def put3 (W : World) (rb : Nat) (a b c : Value) : World := ((W.setCell ⟨rb, 0, none⟩ a).setCell ⟨rb, 1, none⟩ b).setCell ⟨rb, 2, none⟩ c
theorem put3_grown (W : World) (rb : Nat) (a b c : Value) : W.grownBy (put3 W rb a b c) (some rb) :=
  ⟨rfl, rfl, rfl, by simp [put3, World.setCell], fun i _ hne => by
    have h : i ≠ rb := fun e => hne (by rw [e])
    exact (Below.heap_setCell _ ⟨rb, 2, none⟩ c i h).trans ((Below.heap_setCell _ ⟨rb, 1, none⟩ b i h).trans (Below.heap_setCell _ ⟨rb, 0, none⟩ a i h))⟩
theorem box_cells {W : World} {b : Nat} {x y z : Value} (h : W.heap[b]? = some (.cells #[x, y, z] 24 (0, 0))) : W.cell? ⟨b, 0, none⟩ = some x ∧ W.cell? ⟨b, 1, none⟩ = some y ∧ W.cell? ⟨b, 2, none⟩ = some z :=
  ⟨(blk_cell h 0).trans rfl, (blk_cell h 1).trans rfl, (blk_cell h 2).trans rfl⟩
end Go.Proofs.Ytmphigeefppfpaa.H
namespace Go.Proofs.Ytmphigeefppfpaa.H
open Go.RowKit Go.Proofs.YtmphigeefppfpaaW.PrintWords Go.Proofs.YtmphigeefppfpaaW.PrintLast Go.Proofs.YtmphigeefppfpaaW.PrintMore
set_option linter.unusedVariables false
structure AL (w W : World) (bs : List (Nat × Array Value)) (ob B1 : Nat) (rv gv mv bv : Value) (rk : List Int) (g : List (List Int)) (M : List (List (List (List Q.S78)))) (yv : Value) (y : List Int) (wv lv : Value) (Sm Sw Sl : Nat → Prop) (row : List (List (List Q.S78))) (lst : List Q.S78) : Prop where
  hA : AS w W bs ob B1 rv gv mv bv Sm rk g M
  hW : Kd.R kA2 79 W B1 Sw wv row
  hL : Kd.R Q.k78 78 W B1 Sl lv lst
  hY : Kd.R (Kd.int .i64) 3 W w.heap.size (fun k => k < B1) yv y
  dmw : Disj Sm Sw
  dml : Disj Sm Sl
  dwl : Disj Sw Sl
section
variable {w W W1 : World} {yv : Value} {y : List Int} {bs : List (Nat × Array Value)} {ob B1 : Nat} {rv gv mv bv wv lv lv1 : Value} {Sm Sw Sl : Nat → Prop} {rk : List Int} {g : List (List Int)} {M : List (List (List (List Q.S78)))} {row : List (List (List Q.S78))} {lst l1 : List Q.S78}
theorem AS.bound (h : AS w W bs ob B1 rv gv mv bv Sm rk g M) : AS w W bs ob B1 rv gv mv bv (fun k => Sm k ∧ k < W.heap.size) rk g M := ⟨h.hb, h.hbs, h.hr, h.ho, h.h1, h.hRk, h.hg, Kd.R_mono (Kd.R_bound h.hM) (fun k hk => ⟨hk.1, hk.2.2.1⟩)⟩
theorem AL.below (h : AL w W bs ob B1 rv gv mv bv rk g M yv y wv lv Sm Sw Sl row lst) (hb : Below W.heap.size W W1) : AL w W1 bs ob B1 rv gv mv bv rk g M yv y wv lv Sm Sw Sl row lst := ⟨h.hA.below hb, Kd.R_below h.hW hb, Kd.R_below h.hL hb, Kd.R_below h.hY hb, h.dmw, h.dml, h.dwl⟩
theorem AL.lit (h : AL w W bs ob B1 rv gv mv bv rk g M yv y wv lv Sm Sw Sl row lst) : AL w (W.alloc (.cells #[] 78)) bs ob B1 rv gv mv bv rk g M yv y wv (.slice (some ⟨W.heap.size, 0, none⟩) 0 0) (fun k => Sm k ∧ k < W.heap.size) (fun k => Sw k ∧ k < W.heap.size) (fun k => k = W.heap.size) row [] := by
  have hb := below_alloc (Below.refl W.heap.size W) (.cells #[] 78)
  exact ⟨(h.hA.bound).below hb, Kd.R_below (Kd.R_mono (Kd.R_bound h.hW) (fun k hk => ⟨hk.1, hk.2.2.1⟩)) hb, R_empty Q.k78 W B1 h.hA.h1.2.2, Kd.R_below h.hY hb, h.dmw.less _, fun k ha hb => by have := ha.2; omega, fun k ha hb => by have := ha.2; omega⟩
theorem AL.appL (h : AL w W bs ob B1 rv gv mv bv rk g M yv y wv lv Sm Sw Sl row lst) (hq : Kd.R Q.k78 78 W1 B1 (fun k => Sl k ∨ W.heap.size ≤ k) lv1 l1) (hg : W.grownBy W1 lv.ownBlock) : AL w W1 bs ob B1 rv gv mv bv rk g M yv y wv lv1 (fun k => Sm k ∧ k < W.heap.size) (fun k => Sw k ∧ k < W.heap.size) (fun k => Sl k ∨ W.heap.size ≤ k) row l1 :=
  ⟨(h.hA.bound).grown hg (fun k hk => ⟨Kd.R_base h.hL k hk, fun hs => h.dml k hs.1 (h.hL.1 k hk)⟩), R_stay h.hW hg (fun k hk hs => h.dwl k hs (h.hL.1 k hk)), hq, R_low h.hY hg (Kd.R_base h.hL), h.dmw.less _, (h.dml.symm.fresh _).symm, (h.dwl.symm.fresh _).symm⟩
theorem AL.store {wb m cw : Nat} (h : AL w W bs ob B1 rv gv mv bv rk g M yv y (.slice (some ⟨wb, 0, none⟩) m cw) lv Sm Sw Sl row lst) (f : Nat) (hf : f < m) :
    AL w ((W.alloc (.cells #[lv] 76)).setCell ⟨wb, f, none⟩ (.slice (some ⟨W.heap.size, 0, none⟩) 1 1)) bs ob B1 rv gv mv bv rk g M yv y (.slice (some ⟨wb, 0, none⟩) m cw) (.slice none 0 0) (fun k => Sm k ∧ k < W.heap.size) (fun k => (Sw k ∨ Sl k) ∨ k = W.heap.size) (fun _ => False) (row.set f [lst]) [] := by
  have hb := below_alloc (Below.refl W.heap.size W) (.cells #[lv] 76)
  have hone : Kd.R kA1 76 (W.alloc (.cells #[lv] 76)) B1 (fun k => Sl k ∨ k = W.heap.size) (.slice (some ⟨W.heap.size, 0, none⟩) 1 1) [lst] := R_one (e := 78) (t := 76) h.hL h.hA.h1.2.2
  have hwb : Sw wb := h.hW.1 wb rfl
  have hwlt : wb < W.heap.size := by
    obtain ⟨cells, hc⟩ := Kd.R_typed h.hW wb rfl
    exact (Array.getElem?_eq_some_iff.1 hc).1
  have hrow := R_puts (d := kA1) (e := 76) (t := 79) (ok := fun k => (Sw k ∨ Sl k) ∨ k = W.heap.size) (Kd.R_mono (Kd.R_below h.hW hb) (fun k hk => .inl (.inl hk))) f hf hone (fun k hk => by
    rcases hk with hk | hk
    · exact ⟨.inl (.inr hk), fun e => h.dwl wb hwb (e ▸ hk)⟩
    · exact ⟨.inr hk, by omega⟩)
  refine ⟨((h.hA.bound).below hb).grown hrow.2 (fun k hk => by cases hk; exact ⟨Kd.R_base h.hW wb rfl, fun hs => h.dmw wb hs.1 hwb⟩), hrow.1, Kd.R_nil _ _ _ _ _, R_low (Kd.R_below h.hY hb) hrow.2 (fun k hk => by cases hk; exact Kd.R_base h.hW wb rfl), fun k ha hb => ?_, fun _ _ h => h, fun _ _ h => h⟩
  rcases hb with (hb | hb) | hb
  · exact h.dmw k ha.1 hb
  · exact h.dml k ha.1 hb
  · have := ha.2; omega
theorem R_rowAt {A : Option Addr} {n cg base : Nat} {ok : Nat → Prop} {W : World} {g : List (List Int)} (h : Kd.R (Kd.slice 3 (Kd.int .i64)) 25 W base ok (.slice A n cg) g) (q : Nat) (hq : q < n) :
    ∃ ad Ay cy, A = some ad ∧ W.cell? (ad.add q) = some (.slice Ay (Q.rd_L1 g (q : Int)).length cy) ∧ Kd.R (Kd.int .i64) 3 W base ok (.slice Ay (Q.rd_L1 g (q : Int)).length cy) (Q.rd_L1 g (q : Int)) := by
  obtain ⟨b, rfl⟩ : ∃ b, A = some ⟨b, 0, none⟩ := by
    obtain ⟨_, inner, ⟨_, ho⟩, _⟩ := h
    rcases ho with ⟨hv, _⟩ | ⟨g', cap', cur, hv, _⟩
    · injection hv with h1 h2 _; omega
    · injection hv with h1 _ _; exact ⟨g', h1⟩
  obtain ⟨c, hcl, hM, hcc, _⟩ := Kd.R_elem h [] (q : Int) (by omega) (by omega)
  obtain ⟨u, rfl, hR⟩ := hM
  have hcc0 := hcc 0 u rfl
  rw [show (Kd.slice 3 (Kd.int .i64)).sz = 1 from rfl, Int.toNat_natCast, Nat.mul_one, Nat.add_zero] at hcc0
  rw [Int.toNat_natCast] at hR
  obtain ⟨Ay, cy, rfl⟩ := Kd.R_slice hR
  have e : g.getD q [] = Q.rd_L1 g (q : Int) := by simp [Q.rd_L1]
  rw [e] at hcc0 hR
  refine ⟨⟨b, 0, none⟩, Ay, cy, rfl, ?_, Kd.R_mono hR (fun k hk => hk.1)⟩
  rw [← hcc0]
  congr 1
  exact add_plain _ _ |>.trans (by simp)
end
structure AB (w W : World) (va : Array Value) : Prop where
  hb : Below w.heap.size w W
  hs : W.heap[w.heap.size]? = some (.cells va 24 (0, 0))
  hr : W.heap[w.heap.size + 1]? = some (.cells #[.slice none 0 0, .int .i64 0, .slice none 0 0] 44 (0, 0))
theorem AB.below {w W W1 : World} {va : Array Value} (h : AB w W va) (hb : Below W.heap.size W W1) : AB w W1 va := ⟨below_then h.hb h.hb.size hb, blk_below h.hs hb, blk_below h.hr hb⟩
theorem AB.start (w : World) (va : Array Value) : AB w ((w.alloc (.cells va 24)).alloc (.cells #[.slice none 0 0, .int .i64 0, .slice none 0 0] 44)) va := ⟨below_alloc (below_alloc (Below.refl _ _) (.cells va 24)) (.cells #[.slice none 0 0, .int .i64 0, .slice none 0 0] 44), blk_alloc (blk_new _ _) _, blk_at2 _ _ _⟩
theorem AB.res {w W : World} {va : Array Value} (h : AB w W va) : (W.cell? ⟨w.heap.size + 1, 0, none⟩ = some (.slice none 0 0) ∧ W.frozen? ⟨w.heap.size + 1, 0, none⟩ = false) ∧ (W.cell? ⟨w.heap.size + 1, 1, none⟩ = some (.int .i64 0) ∧ W.frozen? ⟨w.heap.size + 1, 1, none⟩ = false) ∧ (W.cell? ⟨w.heap.size + 1, 2, none⟩ = some (.slice none 0 0) ∧ W.frozen? ⟨w.heap.size + 1, 2, none⟩ = false) :=
  ⟨⟨(blk_cell h.hr 0).trans rfl, blk_frozen h.hr 0⟩, ⟨(blk_cell h.hr 1).trans rfl, blk_frozen h.hr 1⟩, (blk_cell h.hr 2).trans rfl, blk_frozen h.hr 2⟩
theorem AB.out {w W : World} {va : Array Value} (h : AB w W va) (a b c : Value) : (outW w W a b c).heap[w.heap.size + 1]? = some (.cells #[a, b, c] 44 (0, 0)) ∧ Below w.heap.size w (outW w W a b c) ∧ W.grownBy (outW w W a b c) (some (w.heap.size + 1)) :=
  ⟨blk_set (blk_set (blk_set h.hr 0 a) 1 b) 2 c, pw_below_grown h.hb _ h.hb.size (put3_grown W (w.heap.size + 1) a b c) (fun k hk => by cases hk; omega), put3_grown W (w.heap.size + 1) a b c⟩
theorem AuEnd.err {e : Int} {w W : World} {va : Array Value} (h : AB w W va) : AuEnd e [] [] w (.returned (.tuple #[.agg #[.slice none 0 0, .int .i64 0, .slice none 0 0], .int .i64 e])) (outW w W (.slice none 0 0) (.int .i64 0) (.slice none 0 0)) :=
  ⟨none, none, 0, 0, fun _ => False, fun _ => False, rfl, Kd.R_nil _ _ _ _ _, Kd.R_nil _ _ _ _ _, (h.out _ _ _).2.1⟩
theorem auto1_calls (x ev : Int) (b : Nat) (w : World) (hc : w.cell? ⟨b, 0, none⟩ = some (.int .i64 ev)) :
    Calls Try.prog 56 #[.int .i64 x, .pointer (some ⟨b, 0, none⟩)] w fun e w' => e = .returned (.bool (auBad ev x)) ∧ Below w.heap.size w w' := by
  by_cases h1 : x < -1
  · have h2 : decide (x < -1) = true := by simpa using h1
    have H2 := Aside0.mk h2
    clear h1
    go_enter Try.func56, Try.ntmps56
    go_wp2
    repeat (go_quiet (fail); try go_wp2)
    go_ret
    exact ⟨by rw [auBad, H2.out]; rfl, Below.refl _ _⟩
  · have h2 : decide (x < -1) = false := by simpa using h1
    have H2 := Aside0.mk h2
    clear h1
    go_enter Try.func56, Try.ntmps56
    go_wp2
    repeat (go_quiet (fail); try go_wp2)
    go_ret
    exact ⟨by rw [auBad, H2.out, Bool.false_or]; rfl, Below.refl _ _⟩
theorem auto1_pred (ev : Int) (b : Nat) (w : World) (hc : w.cell? ⟨b, 0, none⟩ = some (.int .i64 ev)) : PredW 56 #[.pointer (some ⟨b, 0, none⟩)] (Value.int .i64) (fun _ => True) (auBad ev) w :=
  fun _ x hb _ => auto1_calls x ev b _ (pw_cell_below hb hc)
set_option maxHeartbeats 4000000 in
theorem sauto_bad (ev st : Int) (A : Option Addr) (c : Nat) (l : List (List Int)) (A1 A2 : Option Addr) (c1 c2 : Nat) (rk of : List Int) (w : World) (hr : Kd.C (Kd.slice 3 (Kd.int .i64)) w A l.length l)
    (hr1 : Kd.C (Kd.int .i64) w A1 rk.length rk) (hc1 : rk.length ≤ c1) (hr2 : Kd.C (Kd.int .i64) w A2 of.length of) (h : specOk ev st l = false) :
    Calls Try.prog 33 #[.agg #[.int .i64 ev, .int .i64 st, .slice A l.length c], .slice A1 rk.length c1, .slice A2 of.length c2] w (AuEnd 11 [] [] w) := by
  have H1 := Aside0.mk fun W (hW : Below w.heap.size w W) => check_calls ev st A c l W (Kd.C_below hr hW)
  rw [show checkVal ev st l = 11 from by simp [checkVal, h]] at H1
  clear hr hr1 hr2 hc1 h
  go_enter Try.func33, Try.ntmps33
  go_upto_region 1 with (fail)
  have HS := AB.start w #[.int .i64 ev, .int .i64 st, .slice A l.length c]
  generalize ((w.alloc (.cells #[.int .i64 ev, .int .i64 st, .slice A l.length c] 24)).alloc (.cells #[.slice none 0 0, .int .i64 0, .slice none 0 0] 44)) = w0 at *
  obtain ⟨hc0, hc1, hc2⟩ := box_cells HS.hs
  go_wp2_with fail
  refine (H1.out _ HS.hb).mono ?_
  rintro E w1 ⟨rfl, hb⟩
  have HS1 := HS.below hb
  clear hb HS hc0 hc1 hc2 H1
  obtain ⟨⟨hc0, hf0⟩, ⟨hc1, hf1⟩, hc2, hf2⟩ := HS1.res
  go_wp2
  refine bodyPost_ret (results_row_tmp rfl _ _ (w.heap.size + 1) 44 #[.slice none 0 0, .int .i64 0, .slice none 0 0] (0, 0) _ rfl (HS1.out _ _ _).1 Try.underlying44 rfl (by kernel_rfl)) rfl ?_
  exact AuEnd.err HS1
set_option maxHeartbeats 4000000 in
theorem sauto_args (ev st : Int) (A : Option Addr) (c : Nat) (l : List (List Int)) (A1 A2 : Option Addr) (c1 c2 : Nat) (rk of : List Int) (w : World) (hr : Kd.C (Kd.slice 3 (Kd.int .i64)) w A l.length l)
    (hr1 : Kd.C (Kd.int .i64) w A1 rk.length rk) (hc1 : rk.length ≤ c1) (hr2 : Kd.C (Kd.int .i64) w A2 of.length of) (h : specOk ev st l = true) (ha : auArgs ev rk of = false) :
    Calls Try.prog 33 #[.agg #[.int .i64 ev, .int .i64 st, .slice A l.length c], .slice A1 rk.length c1, .slice A2 of.length c2] w (AuEnd 2 [] [] w) := by
  have H1 := Aside0.mk fun W (hW : Below w.heap.size w W) => check_calls ev st A c l W (Kd.C_below hr hW)
  rw [show checkVal ev st l = 0 from by simp [checkVal, h]] at H1
  have H2 := Aside0.mk fun W (hW : Below w.heap.size w W) => ranks_calls A1 c1 rk W (Kd.C_below hr1 hW) hc1
  have HF := Aside0.mk fun W (hW : Below w.heap.size w W) (hn : W.cell? ⟨w.heap.size, 0, none⟩ = some (.int .i64 ev)) => containsFunc_calls A2 c2 of 56 #[.pointer (some ⟨w.heap.size, 0, none⟩)] (fun _ => True) _ W (Kd.C_below hr2 hW) (fun _ _ => trivial) (auto1_pred _ _ _ hn) (fun _ _ => rfl)
  have hmf := run_mkfun
  have hm1 := hr1.2.1
  have hm2 := hr2.2.1
  clear hr hr1 hr2 hc1 h
  cases hrk : ranksB rk with
  | false =>
    rw [hrk] at H2
    clear ha hrk HF
    go_enter Try.func33, Try.ntmps33
    go_upto_region 1 with (fail)
    have HS := AB.start w #[.int .i64 ev, .int .i64 st, .slice A l.length c]
    generalize ((w.alloc (.cells #[.int .i64 ev, .int .i64 st, .slice A l.length c] 24)).alloc (.cells #[.slice none 0 0, .int .i64 0, .slice none 0 0] 44)) = w0 at *
    obtain ⟨hc0, hc1, hc2⟩ := box_cells HS.hs
    go_wp2_with fail
    refine (H1.out _ HS.hb).mono ?_
    rintro E w1 ⟨rfl, hb⟩
    have HS1 := HS.below hb
    clear hb HS hc0 hc1 hc2 H1
    go_wp2_with fail
    refine (H2.out _ HS1.hb).mono ?_
    rintro E w2 ⟨rfl, hb⟩
    have HS2 := HS1.below hb
    clear hb HS1 H2
    obtain ⟨⟨hc0, hf0⟩, ⟨hc1, hf1⟩, hc2, hf2⟩ := HS2.res
    go_wp2
    refine bodyPost_ret (results_row_tmp rfl _ _ (w.heap.size + 1) 44 #[.slice none 0 0, .int .i64 0, .slice none 0 0] (0, 0) _ rfl (HS2.out _ _ _).1 Try.underlying44 rfl (by kernel_rfl)) rfl ?_
    exact AuEnd.err HS2
  | true =>
    rw [hrk] at H2
    by_cases hlen : of.length = rk.length
    · have d0 : ((of.length : Int) == (rk.length : Int)) = true := beq_iff_eq.2 (by omega)
      have d1 : ((of.length : Int) != (rk.length : Int)) = false := bne_eq_false_iff_eq.2 (by omega)
      have hany : of.any (auBad ev) = true := by
        cases h : of.any (auBad ev) with
        | true => rfl
        | false => simp [auArgs, hrk, hlen, h] at ha
      rw [hany] at HF
      clear ha hrk hany hlen
      go_enter Try.func33, Try.ntmps33
      go_upto_region 1 with (fail)
      have HS := AB.start w #[.int .i64 ev, .int .i64 st, .slice A l.length c]
      generalize ((w.alloc (.cells #[.int .i64 ev, .int .i64 st, .slice A l.length c] 24)).alloc (.cells #[.slice none 0 0, .int .i64 0, .slice none 0 0] 44)) = w0 at *
      obtain ⟨hc0, hc1, hc2⟩ := box_cells HS.hs
      go_wp2_with fail
      refine (H1.out _ HS.hb).mono ?_
      rintro E w1 ⟨rfl, hb⟩
      have HS1 := HS.below hb
      clear hb HS hc0 hc1 hc2 H1
      go_wp2_with fail
      refine (H2.out _ HS1.hb).mono ?_
      rintro E w2 ⟨rfl, hb⟩
      have HS2 := HS1.below hb
      clear hb HS1 H2
      go_wp2_with fail
      refine (HF.out _ HS2.hb (box_cells HS2.hs).1).mono ?_
      rintro E w3 ⟨rfl, hb⟩
      have HS3 := HS2.below hb
      clear hb HS2 HF
      obtain ⟨⟨hc0, hf0⟩, ⟨hc1, hf1⟩, hc2, hf2⟩ := HS3.res
      go_wp2
      refine bodyPost_ret (results_row_tmp rfl _ _ (w.heap.size + 1) 44 #[.slice none 0 0, .int .i64 0, .slice none 0 0] (0, 0) _ rfl (HS3.out _ _ _).1 Try.underlying44 rfl (by kernel_rfl)) rfl ?_
      exact AuEnd.err HS3
    · have d0 : ((of.length : Int) == (rk.length : Int)) = false := beq_eq_false_iff_ne.2 (by omega)
      have d1 : ((of.length : Int) != (rk.length : Int)) = true := bne_iff_ne.2 (by omega)
      clear ha hrk hlen HF
      go_enter Try.func33, Try.ntmps33
      go_upto_region 1 with (fail)
      have HS := AB.start w #[.int .i64 ev, .int .i64 st, .slice A l.length c]
      generalize ((w.alloc (.cells #[.int .i64 ev, .int .i64 st, .slice A l.length c] 24)).alloc (.cells #[.slice none 0 0, .int .i64 0, .slice none 0 0] 44)) = w0 at *
      obtain ⟨hc0, hc1, hc2⟩ := box_cells HS.hs
      go_wp2_with fail
      refine (H1.out _ HS.hb).mono ?_
      rintro E w1 ⟨rfl, hb⟩
      have HS1 := HS.below hb
      clear hb HS hc0 hc1 hc2 H1
      go_wp2_with fail
      refine (H2.out _ HS1.hb).mono ?_
      rintro E w2 ⟨rfl, hb⟩
      have HS2 := HS1.below hb
      clear hb HS1 H2
      obtain ⟨⟨hc0, hf0⟩, ⟨hc1, hf1⟩, hc2, hf2⟩ := HS2.res
      go_wp2
      refine bodyPost_ret (results_row_tmp rfl _ _ (w.heap.size + 1) 44 #[.slice none 0 0, .int .i64 0, .slice none 0 0] (0, 0) _ rfl (HS2.out _ _ _).1 Try.underlying44 rfl (by kernel_rfl)) rfl ?_
      exact AuEnd.err HS2
end Go.Proofs.Ytmphigeefppfpaa.H
