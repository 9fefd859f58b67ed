/- What schemeReach_calls, handed_and_shaped, own, laidOut, laid7, mx_of_shaped, arg_scheme needs, out of my texts, by a program (slim.py). -/
import Derived.Test.YthflpbgloeimfaaGreatDoorSR0
namespace Go.Proofs.YthflpbgloeimfaaGreatDoor.Q
open Go.RowKit Go.Proofs.YthflpbgloeimfaaGreatDoorW.PrintWords Go.Proofs.YthflpbgloeimfaaGreatDoorW.PrintLast Go.Proofs.YthflpbgloeimfaaGreatDoorW.PrintMore
attribute [local go_sem] max2_int min2_int max_two min_two max_three min_three max_four min_four
set_option linter.unusedVariables false
set_option linter.unusedSimpArgs false
mutual
def virgationref01_depth.l0 : Nat → Int → List (S47) → Int → Int → Option (Int)
  | 0, _, _, _, _ => none
  | k + 1, x3, x7, x8, x9 => if x9 < x8 then (if 0 ≤ x9 then (if x9 < (x7.length : Int) then ((virgationref01_depth.f k ((rd_T47 x7 x9).f0)).bind fun t191 => (virgationref01_depth.l0 k (mx x3 t191) x7 x8 (wrap64 (x9 + 1)))) else (none)) else (none)) else (some (wrap64 (x3 + 1)))
def virgationref01_depth.f : Nat → List (S47) → Option (Int)
  | 0, _ => none
  | k + 1, l0_0 => virgationref01_depth.l0 k 0 l0_0 (l0_0.length : Int) 0
end
set_option maxHeartbeats 8000000 in
set_option maxRecDepth 100000 in
theorem virgationref01_depth.calls (k : Nat) : ∀ (A0_0 : Option Addr) (c0_0 : Nat) (l0_0 : List (S47)) (r : Int) (w : World) (hr0_0 : Kd.C k47 w A0_0 l0_0.length l0_0) (hc0_0 : l0_0.length ≤ c0_0) (h : virgationref01_depth.f k l0_0 = some r),
    Calls Tryz.prog 89 #[.agg #[.slice A0_0 l0_0.length c0_0]] w fun e w' => e = .returned (.int .i64 r) ∧ Below w.heap.size w w' := by
  induction k using Nat.strongRecOn with
  | _ k ih =>
  intro A0_0 c0_0 l0_0 r w hr0_0 hc0_0 h
  cases k with
  | zero => exact absurd h (by simp [virgationref01_depth.f])
  | succ k =>
  simp only [virgationref01_depth.f] at h
  have hu47 := Tryz.underlying47
  have HR0_0 := Aside0.mk hr0_0
  have HC0_0 := Aside0.mk hc0_0
  clear hr0_0 hc0_0
  have HB := Aside0.mk (Below.refl w.heap.size w)
  have H : (virgationref01_depth.l0 k 0 l0_0 (l0_0.length : Int) 0) = some r := h
  clear h
  have H' := Aside0.mk H
  clear H
  go_enter Tryz.func89, Tryz.ntmps89
  go_wp2_with (first | ((with_reducible refine gate_dst (N := 1) rfl ?_); refine box_event ?hg (N := 1) ?hd (cs := #[.slice A0_0 l0_0.length c0_0]) (t := 47) ?hr ?_; (case hd => rfl); (case hg => rfl); (case hr => first | (go_simp; done) | (go_simp; rfl)); intro gb188 hg w2 hbox hb; have n0_ := Aside0.mk (below_step (by repeat (first | (with_reducible first | exact HB.out | apply below_alloc | apply pw_below_drewN | apply below_drew1) | exact HB.out)) hb); have n1_ := Aside0.mk (hbox); have n2_ := Aside0.mk ((by rw [hg]; exact (below_size (by repeat (first | (with_reducible first | exact HB.out | apply below_alloc | apply pw_below_drewN | apply below_drew1) | exact HB.out))) : w.heap.size ≤ gb188)); have n3_ := Aside0.mk ((by rw [hg]; exact (below_size (by repeat (first | (with_reducible first | exact HB.out | apply below_alloc | apply pw_below_drewN | apply below_drew1) | exact HB.out))) : w.heap.size ≤ gb188)); clear HB; have HB := n0_; have BK188 := n1_; have GW188 := n2_; have GE188 := n3_; clear n0_ n1_ n2_ n3_; clear hb hbox hg; have hcz3_0 : w2.cell? ⟨gb188, 0, none⟩ = some (.slice A0_0 l0_0.length c0_0) := (blk_cell BK188.out 0).trans rfl; have hfz3_0 := blk_frozen BK188.out 0))
  go_loopg [3, 9] k (fun kq v3 v9 w' => ∃ (x3_1 : Int) (x9_1 : Int), v3 = .int .i64 x3_1 ∧ v9 = .int .i64 x9_1 ∧ Aside0 (virgationref01_depth.l0 kq x3_1 l0_0 (l0_0.length : Int) x9_1 = some r) ∧ Aside0 (kq ≤ k) ∧ Aside0 (w'.heap[gb188]? = some (.cells #[(.slice A0_0 l0_0.length c0_0)] 47 (0, 0))) ∧ Aside0 (Below w.heap.size w w'))
  case atStart => exact ⟨(0), (0), (by first | rfl | (simp; done) | (simp [*]; done)), (by first | rfl | (simp; done) | (simp [*]; done)), H', ⟨Nat.le_refl _⟩, ⟨by (with_reducible repeat (first | refine blk_drewN ?_ _ | refine blk_drew ?_ | refine blk_alloc ?_ _)); exact BK188.out⟩, ⟨by repeat (first | (with_reducible first | exact HB.out | apply below_alloc | apply pw_below_drewN | apply below_drew1 | refine below_set ?_ GE188.out) | exact HB.out)⟩⟩
  case round =>
    clear H'
    try clear p2
    try clear hcz3_0
    try clear hfz3_0
    obtain ⟨x3_1, x9_1, rfl, rfl, HA, HK1, BK188, HB⟩ := hrel
    cases gk with
    | zero => exact absurd HA.out (by simp [virgationref01_depth.l0])
    | succ k1 =>
      have H := HA.out
      clear HA
      simp only [virgationref01_depth.l0] at H
      by_cases c4 : x9_1 < (l0_0.length : Int)
      · rw [if_pos c4] at H
        have c4b0 : decide (x9_1 < (l0_0.length : Int)) = true := decide_eq_true c4
        clear c4
        by_cases c5 : 0 ≤ x9_1
        · rw [if_pos c5] at H
          have c5b0 : decide (0 ≤ x9_1) = true := decide_eq_true c5
          clear c5
          by_cases c6 : x9_1 < (l0_0.length : Int)
          · rw [if_pos c6] at H
            have c6b0 : decide (x9_1 < (l0_0.length : Int)) = true := decide_eq_true c6
            clear c6
            replace H := Option.bind_eq_some_iff.mp H
            obtain ⟨t191, A70, H⟩ := H
            replace H : (virgationref01_depth.l0 k1 (mx x3_1 t191) l0_0 (l0_0.length : Int) (wrap64 (x9_1 + 1))) = some r := H
            have A7 := Aside0.mk A70
            clear A70
            obtain ⟨ji8, hji8⟩ : ∃ j_ : Int, (mx x3_1 t191) = j_ := ⟨_, rfl⟩
            replace H : (virgationref01_depth.l0 k1 ji8 l0_0 (l0_0.length : Int) (wrap64 (x9_1 + 1))) = some r := by first | (rw [hji8] at H; exact H) | (simp only [hji8] at H ⊢; exact H)
            (try rw [hji8] at A7)
            have hji8_ : (if x3_1 < t191 then t191 else x3_1) = ji8 := hji8
            have H' := Aside0.mk H
            clear H
            have p189 : 0 ≤ (x9_1 : Int) := of_decide_eq_true (by first | (with_reducible assumption) | assumption)
            have q189 : x9_1 < (l0_0.length : Int) := of_decide_eq_true (by first | (with_reducible assumption) | assumption)
            obtain ⟨ad189, A189_0, c189_0, e189, hx189_0, hl189_0, hi189_0⟩ := at_T47 HR0_0.out x9_1 p189 q189
            cases e189
            replace hx189_0 := (HB.out.cell (World.block_lt_of_cell? w _ hx189_0)).trans hx189_0
            have HR189_0 := Aside0.mk hi189_0
            have HC189_0 := Aside0.mk hl189_0
            clear hi189_0 hl189_0
            replace p189 := eq_true p189
            replace q189 := eq_true q189
            go_wp2_with (first | ((with_reducible refine gate_dst (N := 5) rfl ?_); refine box_event ?hg (N := 5) ?hd (cs := #[.slice none 0 0]) (t := 47) ?hr ?_; (case hd => rfl); (case hg => rfl); (case hr => first | (go_simp; done) | (go_simp; rfl)); intro gb190 hg w9 hbox hb; have n0_ := Aside0.mk (blk_below (g := gb188) (o := .cells #[.slice (some ad189) l0_0.length c0_0] 47 (0, 0)) (by (with_reducible repeat (first | refine blk_drewN ?_ _ | refine blk_drew ?_ | refine blk_alloc ?_ _)); exact BK188.out) hb); have n1_ := Aside0.mk (below_step (by repeat (first | (with_reducible first | exact HB.out | apply below_alloc | apply pw_below_drewN | apply below_drew1 | refine below_set ?_ GE188.out) | exact HB.out)) hb); have n2_ := Aside0.mk (hbox); have n3_ := Aside0.mk ((by rw [hg]; exact (below_size (by repeat (first | (with_reducible first | exact HB.out | apply below_alloc | apply pw_below_drewN | apply below_drew1 | refine below_set ?_ GE188.out) | exact HB.out))) : w.heap.size ≤ gb190)); have n4_ := Aside0.mk ((by rw [hg]; exact (below_size (by repeat (first | (with_reducible first | exact HB.out | apply below_alloc | apply pw_below_drewN | apply below_drew1 | refine below_set ?_ GE188.out) | exact HB.out))) : w.heap.size ≤ gb190)); have n5_ := Aside0.mk ((by rw [hg]; exact Nat.ne_of_lt (blk_lt (g := gb188) (o := .cells #[.slice (some ad189) l0_0.length c0_0] 47 (0, 0)) (by (with_reducible repeat (first | refine blk_drewN ?_ _ | refine blk_drew ?_ | refine blk_alloc ?_ _)); exact BK188.out)) : gb188 ≠ gb190)); have n6_ := Aside0.mk ((by rw [hg]; exact Nat.ne_of_gt (blk_lt (g := gb188) (o := .cells #[.slice (some ad189) l0_0.length c0_0] 47 (0, 0)) (by (with_reducible repeat (first | refine blk_drewN ?_ _ | refine blk_drew ?_ | refine blk_alloc ?_ _)); exact BK188.out)) : gb190 ≠ gb188)); clear BK188; clear HB; have BK188 := n0_; have HB := n1_; have BK190 := n2_; have GW190 := n3_; have GE190 := n4_; have NB188_190 := n5_; have NB190_188 := n6_; clear n0_ n1_ n2_ n3_ n4_ n5_ n6_; clear hb hbox hg; have hnb10 := NB190_188.out; have hnc10 := NB188_190.out; have hcz11_0 : w9.cell? ⟨gb190, 0, none⟩ = some (.slice none 0 0) := (blk_cell BK190.out 0).trans rfl; have hfz11_0 := blk_frozen BK190.out 0) | ((with_reducible refine gate_callee (f := 89) rfl ?_); refine goesL_ (some 15) rfl rfl Tryz.func89 (by kernel_rfl) rfl #[.agg #[.slice A189_0 ((rd_T47 l0_0 x9_1).f0).length c189_0]] rfl (by (try simp only [List.map_toArray, List.map_cons, List.map_nil]); first | done | rfl | (simp only [List.length_drop, List.length_take]; rfl)) ?_; (with_reducible refine (ih k1 (by have := HK1.out; omega) _ _ ((rd_T47 l0_0 x9_1).f0) t191 _ ?side1 ?side2 A7.out).mono ?_); (case side1 => exact Kd.C_below HR189_0.out (by repeat (first | (with_reducible first | exact HB.out | apply below_alloc | apply pw_below_drewN | apply below_drew1 | refine below_set ?_ GE188.out | refine below_set ?_ GE190.out) | exact HB.out))); (case side2 => exact HC189_0.out); rintro e w12 ⟨rfl, hb⟩; refine ⟨_, rfl, ?_⟩; have n0_ := Aside0.mk (blk_below (g := gb188) (o := .cells #[.slice (some ad189) l0_0.length c0_0] 47 (0, 0)) (by (with_reducible repeat (first | refine blk_drewN ?_ _ | refine blk_drew ?_ | refine blk_alloc ?_ _)); refine blk_far ?_ NB188_190.out _; (with_reducible repeat (first | refine blk_drewN ?_ _ | refine blk_drew ?_ | refine blk_alloc ?_ _)); exact BK188.out) hb); have n1_ := Aside0.mk (blk_below (g := gb190) (o := .cells #[.slice A189_0 ((rd_T47 l0_0 x9_1).f0).length c189_0] 47 (0, 0)) (by (with_reducible repeat (first | refine blk_drewN ?_ _ | refine blk_drew ?_ | refine blk_alloc ?_ _)); refine blk_put (cs := #[.slice none 0 0]) ?_ 0 _ rfl; (with_reducible repeat (first | refine blk_drewN ?_ _ | refine blk_drew ?_ | refine blk_alloc ?_ _)); exact BK190.out) hb); have n2_ := Aside0.mk (below_step (by repeat (first | (with_reducible first | exact HB.out | apply below_alloc | apply pw_below_drewN | apply below_drew1 | refine below_set ?_ GE188.out | refine below_set ?_ GE190.out) | exact HB.out)) hb); clear BK188; clear BK190; clear HB; have BK188 := n0_; have BK190 := n1_; have HB := n2_; clear n0_ n1_ n2_; (try clear hb); (try clear hb2); (try clear hk); (try clear hi)))
            go_roundg k1
            case measure => have := HK1.out; omega
            case rel => exact ⟨(ji8), (wrap64 (x9_1 + 1)), (by first | rfl | (simp; done) | (simp only [← hji8] <;> (first | rfl | simp)) | (simp [*]; done)), (by first | rfl | (simp; done) | (simp [*]; done)), H', ⟨by have := HK1.out; omega⟩, ⟨by (with_reducible repeat (first | refine blk_drewN ?_ _ | refine blk_drew ?_ | refine blk_alloc ?_ _)); exact BK188.out⟩, ⟨by repeat (first | (with_reducible first | exact HB.out | apply below_alloc | apply pw_below_drewN | apply below_drew1 | refine below_set ?_ GE188.out | refine below_set ?_ GE190.out) | exact HB.out)⟩⟩
          · rw [if_neg c6] at H
            exact absurd H (by simp)
        · rw [if_neg c5] at H
          exact absurd H (by simp)
      · rw [if_neg c4] at H
        have c4b0 : decide (x9_1 < (l0_0.length : Int)) = false := decide_eq_false c4
        clear c4
        obtain rfl := Option.some.inj H
        go_wp2
        go_ret
        exact ⟨by first | rfl | (simp [errW_none, errW_some] <;> rfl) | (simp [*, errW_none, errW_some] <;> rfl), by repeat (first | (with_reducible first | exact HB.out | apply below_alloc | apply pw_below_drewN | apply below_drew1 | refine below_set ?_ GE188.out) | exact HB.out)⟩
mutual
def virgationref01_few.l0 : Nat → List (S47) → Int → Int → List (S47) → Option (Bool)
  | 0, _, _, _, _ => none
  | k + 1, x6, x7, x8, x193000 => if x8 < x7 then (if 0 ≤ x8 then (if x8 < (x6.length : Int) then ((virgationref01_few.f k ((rd_T47 x6 x8).f0)).bind fun t195 => (if t195 = true then (virgationref01_few.l0 k x6 x7 (wrap64 (x8 + 1)) x193000) else (some false))) else (none)) else (none)) else (some (decide ((x193000.length : Int) ≤ 8)))
def virgationref01_few.f : Nat → List (S47) → Option (Bool)
  | 0, _ => none
  | k + 1, l0_0 => virgationref01_few.l0 k l0_0 (l0_0.length : Int) 0 l0_0
end
set_option maxHeartbeats 8000000 in
set_option maxRecDepth 100000 in
theorem virgationref01_few.calls (k : Nat) : ∀ (A0_0 : Option Addr) (c0_0 : Nat) (l0_0 : List (S47)) (r : Bool) (w : World) (hr0_0 : Kd.C k47 w A0_0 l0_0.length l0_0) (hc0_0 : l0_0.length ≤ c0_0) (h : virgationref01_few.f k l0_0 = some r),
    Calls Tryz.prog 90 #[.agg #[.slice A0_0 l0_0.length c0_0]] w fun e w' => e = .returned (.bool r) ∧ Below w.heap.size w w' := by
  induction k using Nat.strongRecOn with
  | _ k ih =>
  intro A0_0 c0_0 l0_0 r w hr0_0 hc0_0 h
  cases k with
  | zero => exact absurd h (by simp [virgationref01_few.f])
  | succ k =>
  simp only [virgationref01_few.f] at h
  have hu47 := Tryz.underlying47
  have HR0_0 := Aside0.mk hr0_0
  have HC0_0 := Aside0.mk hc0_0
  clear hr0_0 hc0_0
  have HB := Aside0.mk (Below.refl w.heap.size w)
  have H : (virgationref01_few.l0 k l0_0 (l0_0.length : Int) 0 l0_0) = some r := h
  clear h
  have H' := Aside0.mk H
  clear H
  go_enter Tryz.func90, Tryz.ntmps90
  go_wp2_with (first | ((with_reducible refine gate_dst (N := 1) rfl ?_); refine box_event ?hg (N := 1) ?hd (cs := #[.slice A0_0 l0_0.length c0_0]) (t := 47) ?hr ?_; (case hd => rfl); (case hg => rfl); (case hr => first | (go_simp; done) | (go_simp; rfl)); intro gb192 hg w2 hbox hb; have n0_ := Aside0.mk (below_step (by repeat (first | (with_reducible first | exact HB.out | apply below_alloc | apply pw_below_drewN | apply below_drew1) | exact HB.out)) hb); have n1_ := Aside0.mk (hbox); have n2_ := Aside0.mk ((by rw [hg]; exact (below_size (by repeat (first | (with_reducible first | exact HB.out | apply below_alloc | apply pw_below_drewN | apply below_drew1) | exact HB.out))) : w.heap.size ≤ gb192)); have n3_ := Aside0.mk ((by rw [hg]; exact (below_size (by repeat (first | (with_reducible first | exact HB.out | apply below_alloc | apply pw_below_drewN | apply below_drew1) | exact HB.out))) : w.heap.size ≤ gb192)); clear HB; have HB := n0_; have BK192 := n1_; have GW192 := n2_; have GE192 := n3_; clear n0_ n1_ n2_ n3_; clear hb hbox hg; have hcz3_0 : w2.cell? ⟨gb192, 0, none⟩ = some (.slice A0_0 l0_0.length c0_0) := (blk_cell BK192.out 0).trans rfl; have hfz3_0 := blk_frozen BK192.out 0))
  go_loopg [8] k (fun kq v8 w' => ∃ (x8_1 : Int), v8 = .int .i64 x8_1 ∧ Aside0 (virgationref01_few.l0 kq l0_0 (l0_0.length : Int) x8_1 l0_0 = some r) ∧ Aside0 (kq ≤ k) ∧ Aside0 (w'.heap[gb192]? = some (.cells #[(.slice A0_0 l0_0.length c0_0)] 47 (0, 0))) ∧ Aside0 (Below w.heap.size w w'))
  case atStart => exact ⟨(0), (by first | rfl | (simp; done) | (simp [*]; done)), H', ⟨Nat.le_refl _⟩, ⟨by (with_reducible repeat (first | refine blk_drewN ?_ _ | refine blk_drew ?_ | refine blk_alloc ?_ _)); exact BK192.out⟩, ⟨by repeat (first | (with_reducible first | exact HB.out | apply below_alloc | apply pw_below_drewN | apply below_drew1 | refine below_set ?_ GE192.out) | exact HB.out)⟩⟩
  case round =>
    clear H'
    try clear p2
    try clear hcz3_0
    try clear hfz3_0
    obtain ⟨x8_1, rfl, HA, HK1, BK192, HB⟩ := hrel
    cases gk with
    | zero => exact absurd HA.out (by simp [virgationref01_few.l0])
    | succ k1 =>
      have H := HA.out
      clear HA
      simp only [virgationref01_few.l0] at H
      by_cases c4 : x8_1 < (l0_0.length : Int)
      · rw [if_pos c4] at H
        have c4b0 : decide (x8_1 < (l0_0.length : Int)) = true := decide_eq_true c4
        clear c4
        by_cases c5 : 0 ≤ x8_1
        · rw [if_pos c5] at H
          have c5b0 : decide (0 ≤ x8_1) = true := decide_eq_true c5
          clear c5
          by_cases c6 : x8_1 < (l0_0.length : Int)
          · rw [if_pos c6] at H
            have c6b0 : decide (x8_1 < (l0_0.length : Int)) = true := decide_eq_true c6
            clear c6
            replace H := Option.bind_eq_some_iff.mp H
            obtain ⟨t195, A70, H⟩ := H
            replace H : (if t195 = true then (virgationref01_few.l0 k1 l0_0 (l0_0.length : Int) (wrap64 (x8_1 + 1)) l0_0) else (some false)) = some r := H
            have A7 := Aside0.mk A70
            clear A70
            by_cases c8 : t195 = true
            · subst c8
              have H1 : (virgationref01_few.l0 k1 l0_0 (l0_0.length : Int) (wrap64 (x8_1 + 1)) l0_0) = some r := by rw [if_pos rfl] at H; exact H
              clear H
              have H := H1
              clear H1
              have H' := Aside0.mk H
              clear H
              have p193 : 0 ≤ (x8_1 : Int) := of_decide_eq_true (by first | (with_reducible assumption) | assumption)
              have q193 : x8_1 < (l0_0.length : Int) := of_decide_eq_true (by first | (with_reducible assumption) | assumption)
              obtain ⟨ad193, A193_0, c193_0, e193, hx193_0, hl193_0, hi193_0⟩ := at_T47 HR0_0.out x8_1 p193 q193
              cases e193
              replace hx193_0 := (HB.out.cell (World.block_lt_of_cell? w _ hx193_0)).trans hx193_0
              have HR193_0 := Aside0.mk hi193_0
              have HC193_0 := Aside0.mk hl193_0
              clear hi193_0 hl193_0
              replace p193 := eq_true p193
              replace q193 := eq_true q193
              go_wp2_with (first | ((with_reducible refine gate_dst (N := 4) rfl ?_); refine box_event ?hg (N := 4) ?hd (cs := #[.slice none 0 0]) (t := 47) ?hr ?_; (case hd => rfl); (case hg => rfl); (case hr => first | (go_simp; done) | (go_simp; rfl)); intro gb194 hg w9 hbox hb; have n0_ := Aside0.mk (blk_below (g := gb192) (o := .cells #[.slice (some ad193) l0_0.length c0_0] 47 (0, 0)) (by (with_reducible repeat (first | refine blk_drewN ?_ _ | refine blk_drew ?_ | refine blk_alloc ?_ _)); exact BK192.out) hb); have n1_ := Aside0.mk (below_step (by repeat (first | (with_reducible first | exact HB.out | apply below_alloc | apply pw_below_drewN | apply below_drew1 | refine below_set ?_ GE192.out) | exact HB.out)) hb); have n2_ := Aside0.mk (hbox); have n3_ := Aside0.mk ((by rw [hg]; exact (below_size (by repeat (first | (with_reducible first | exact HB.out | apply below_alloc | apply pw_below_drewN | apply below_drew1 | refine below_set ?_ GE192.out) | exact HB.out))) : w.heap.size ≤ gb194)); have n4_ := Aside0.mk ((by rw [hg]; exact (below_size (by repeat (first | (with_reducible first | exact HB.out | apply below_alloc | apply pw_below_drewN | apply below_drew1 | refine below_set ?_ GE192.out) | exact HB.out))) : w.heap.size ≤ gb194)); have n5_ := Aside0.mk ((by rw [hg]; exact Nat.ne_of_lt (blk_lt (g := gb192) (o := .cells #[.slice (some ad193) l0_0.length c0_0] 47 (0, 0)) (by (with_reducible repeat (first | refine blk_drewN ?_ _ | refine blk_drew ?_ | refine blk_alloc ?_ _)); exact BK192.out)) : gb192 ≠ gb194)); have n6_ := Aside0.mk ((by rw [hg]; exact Nat.ne_of_gt (blk_lt (g := gb192) (o := .cells #[.slice (some ad193) l0_0.length c0_0] 47 (0, 0)) (by (with_reducible repeat (first | refine blk_drewN ?_ _ | refine blk_drew ?_ | refine blk_alloc ?_ _)); exact BK192.out)) : gb194 ≠ gb192)); clear BK192; clear HB; have BK192 := n0_; have HB := n1_; have BK194 := n2_; have GW194 := n3_; have GE194 := n4_; have NB192_194 := n5_; have NB194_192 := n6_; clear n0_ n1_ n2_ n3_ n4_ n5_ n6_; clear hb hbox hg; have hnb10 := NB194_192.out; have hnc10 := NB192_194.out; have hcz11_0 : w9.cell? ⟨gb194, 0, none⟩ = some (.slice none 0 0) := (blk_cell BK194.out 0).trans rfl; have hfz11_0 := blk_frozen BK194.out 0) | ((with_reducible refine gate_callee (f := 90) rfl ?_); refine goesL_ (some 13) rfl rfl Tryz.func90 (by kernel_rfl) rfl #[.agg #[.slice A193_0 ((rd_T47 l0_0 x8_1).f0).length c193_0]] rfl (by (try simp only [List.map_toArray, List.map_cons, List.map_nil]); first | done | rfl | (simp only [List.length_drop, List.length_take]; rfl)) ?_; (with_reducible refine (ih k1 (by have := HK1.out; omega) _ _ ((rd_T47 l0_0 x8_1).f0) true _ ?side1 ?side2 A7.out).mono ?_); (case side1 => exact Kd.C_below HR193_0.out (by repeat (first | (with_reducible first | exact HB.out | apply below_alloc | apply pw_below_drewN | apply below_drew1 | refine below_set ?_ GE192.out | refine below_set ?_ GE194.out) | exact HB.out))); (case side2 => exact HC193_0.out); rintro e w12 ⟨rfl, hb⟩; refine ⟨_, rfl, ?_⟩; have n0_ := Aside0.mk (blk_below (g := gb192) (o := .cells #[.slice (some ad193) l0_0.length c0_0] 47 (0, 0)) (by (with_reducible repeat (first | refine blk_drewN ?_ _ | refine blk_drew ?_ | refine blk_alloc ?_ _)); refine blk_far ?_ NB192_194.out _; (with_reducible repeat (first | refine blk_drewN ?_ _ | refine blk_drew ?_ | refine blk_alloc ?_ _)); exact BK192.out) hb); have n1_ := Aside0.mk (blk_below (g := gb194) (o := .cells #[.slice A193_0 ((rd_T47 l0_0 x8_1).f0).length c193_0] 47 (0, 0)) (by (with_reducible repeat (first | refine blk_drewN ?_ _ | refine blk_drew ?_ | refine blk_alloc ?_ _)); refine blk_put (cs := #[.slice none 0 0]) ?_ 0 _ rfl; (with_reducible repeat (first | refine blk_drewN ?_ _ | refine blk_drew ?_ | refine blk_alloc ?_ _)); exact BK194.out) hb); have n2_ := Aside0.mk (below_step (by repeat (first | (with_reducible first | exact HB.out | apply below_alloc | apply pw_below_drewN | apply below_drew1 | refine below_set ?_ GE192.out | refine below_set ?_ GE194.out) | exact HB.out)) hb); clear BK192; clear BK194; clear HB; have BK192 := n0_; have BK194 := n1_; have HB := n2_; clear n0_ n1_ n2_; (try clear hb); (try clear hb2); (try clear hk); (try clear hi)))
              go_roundg k1
              case measure => have := HK1.out; omega
              case rel => exact ⟨(wrap64 (x8_1 + 1)), (by first | rfl | (simp; done) | (simp [*]; done)), H', ⟨by have := HK1.out; omega⟩, ⟨by (with_reducible repeat (first | refine blk_drewN ?_ _ | refine blk_drew ?_ | refine blk_alloc ?_ _)); exact BK192.out⟩, ⟨by repeat (first | (with_reducible first | exact HB.out | apply below_alloc | apply pw_below_drewN | apply below_drew1 | refine below_set ?_ GE192.out | refine below_set ?_ GE194.out) | exact HB.out)⟩⟩
            · replace c8 := Bool.eq_false_iff.mpr c8
              subst c8
              have H1 : (some false) = some r := by rw [if_neg (show ¬ (false = true) by decide)] at H; exact H
              clear H
              have H := H1
              clear H1
              obtain rfl := Option.some.inj H
              have p193 : 0 ≤ (x8_1 : Int) := of_decide_eq_true (by first | (with_reducible assumption) | assumption)
              have q193 : x8_1 < (l0_0.length : Int) := of_decide_eq_true (by first | (with_reducible assumption) | assumption)
              obtain ⟨ad193, A193_0, c193_0, e193, hx193_0, hl193_0, hi193_0⟩ := at_T47 HR0_0.out x8_1 p193 q193
              cases e193
              replace hx193_0 := (HB.out.cell (World.block_lt_of_cell? w _ hx193_0)).trans hx193_0
              have HR193_0 := Aside0.mk hi193_0
              have HC193_0 := Aside0.mk hl193_0
              clear hi193_0 hl193_0
              replace p193 := eq_true p193
              replace q193 := eq_true q193
              go_wp2_with (first | ((with_reducible refine gate_dst (N := 4) rfl ?_); refine box_event ?hg (N := 4) ?hd (cs := #[.slice none 0 0]) (t := 47) ?hr ?_; (case hd => rfl); (case hg => rfl); (case hr => first | (go_simp; done) | (go_simp; rfl)); intro gb194 hg w13 hbox hb; have n0_ := Aside0.mk (blk_below (g := gb192) (o := .cells #[.slice (some ad193) l0_0.length c0_0] 47 (0, 0)) (by (with_reducible repeat (first | refine blk_drewN ?_ _ | refine blk_drew ?_ | refine blk_alloc ?_ _)); exact BK192.out) hb); have n1_ := Aside0.mk (below_step (by repeat (first | (with_reducible first | exact HB.out | apply below_alloc | apply pw_below_drewN | apply below_drew1 | refine below_set ?_ GE192.out) | exact HB.out)) hb); have n2_ := Aside0.mk (hbox); have n3_ := Aside0.mk ((by rw [hg]; exact (below_size (by repeat (first | (with_reducible first | exact HB.out | apply below_alloc | apply pw_below_drewN | apply below_drew1 | refine below_set ?_ GE192.out) | exact HB.out))) : w.heap.size ≤ gb194)); have n4_ := Aside0.mk ((by rw [hg]; exact (below_size (by repeat (first | (with_reducible first | exact HB.out | apply below_alloc | apply pw_below_drewN | apply below_drew1 | refine below_set ?_ GE192.out) | exact HB.out))) : w.heap.size ≤ gb194)); have n5_ := Aside0.mk ((by rw [hg]; exact Nat.ne_of_lt (blk_lt (g := gb192) (o := .cells #[.slice (some ad193) l0_0.length c0_0] 47 (0, 0)) (by (with_reducible repeat (first | refine blk_drewN ?_ _ | refine blk_drew ?_ | refine blk_alloc ?_ _)); exact BK192.out)) : gb192 ≠ gb194)); have n6_ := Aside0.mk ((by rw [hg]; exact Nat.ne_of_gt (blk_lt (g := gb192) (o := .cells #[.slice (some ad193) l0_0.length c0_0] 47 (0, 0)) (by (with_reducible repeat (first | refine blk_drewN ?_ _ | refine blk_drew ?_ | refine blk_alloc ?_ _)); exact BK192.out)) : gb194 ≠ gb192)); clear BK192; clear HB; have BK192 := n0_; have HB := n1_; have BK194 := n2_; have GW194 := n3_; have GE194 := n4_; have NB192_194 := n5_; have NB194_192 := n6_; clear n0_ n1_ n2_ n3_ n4_ n5_ n6_; clear hb hbox hg; have hnb14 := NB194_192.out; have hnc14 := NB192_194.out; have hcz15_0 : w13.cell? ⟨gb194, 0, none⟩ = some (.slice none 0 0) := (blk_cell BK194.out 0).trans rfl; have hfz15_0 := blk_frozen BK194.out 0) | ((with_reducible refine gate_callee (f := 90) rfl ?_); refine goesL_ (some 13) rfl rfl Tryz.func90 (by kernel_rfl) rfl #[.agg #[.slice A193_0 ((rd_T47 l0_0 x8_1).f0).length c193_0]] rfl (by (try simp only [List.map_toArray, List.map_cons, List.map_nil]); first | done | rfl | (simp only [List.length_drop, List.length_take]; rfl)) ?_; (with_reducible refine (ih k1 (by have := HK1.out; omega) _ _ ((rd_T47 l0_0 x8_1).f0) false _ ?side1 ?side2 A7.out).mono ?_); (case side1 => exact Kd.C_below HR193_0.out (by repeat (first | (with_reducible first | exact HB.out | apply below_alloc | apply pw_below_drewN | apply below_drew1 | refine below_set ?_ GE192.out | refine below_set ?_ GE194.out) | exact HB.out))); (case side2 => exact HC193_0.out); rintro e w16 ⟨rfl, hb⟩; refine ⟨_, rfl, ?_⟩; have n0_ := Aside0.mk (blk_below (g := gb192) (o := .cells #[.slice (some ad193) l0_0.length c0_0] 47 (0, 0)) (by (with_reducible repeat (first | refine blk_drewN ?_ _ | refine blk_drew ?_ | refine blk_alloc ?_ _)); refine blk_far ?_ NB192_194.out _; (with_reducible repeat (first | refine blk_drewN ?_ _ | refine blk_drew ?_ | refine blk_alloc ?_ _)); exact BK192.out) hb); have n1_ := Aside0.mk (blk_below (g := gb194) (o := .cells #[.slice A193_0 ((rd_T47 l0_0 x8_1).f0).length c193_0] 47 (0, 0)) (by (with_reducible repeat (first | refine blk_drewN ?_ _ | refine blk_drew ?_ | refine blk_alloc ?_ _)); refine blk_put (cs := #[.slice none 0 0]) ?_ 0 _ rfl; (with_reducible repeat (first | refine blk_drewN ?_ _ | refine blk_drew ?_ | refine blk_alloc ?_ _)); exact BK194.out) hb); have n2_ := Aside0.mk (below_step (by repeat (first | (with_reducible first | exact HB.out | apply below_alloc | apply pw_below_drewN | apply below_drew1 | refine below_set ?_ GE192.out | refine below_set ?_ GE194.out) | exact HB.out)) hb); clear BK192; clear BK194; clear HB; have BK192 := n0_; have BK194 := n1_; have HB := n2_; clear n0_ n1_ n2_; (try clear hb); (try clear hb2); (try clear hk); (try clear hi)))
              go_ret
              exact ⟨by first | rfl | (simp [errW_none, errW_some] <;> rfl) | (simp [*, errW_none, errW_some] <;> rfl), by repeat (first | (with_reducible first | exact HB.out | apply below_alloc | apply pw_below_drewN | apply below_drew1 | refine below_set ?_ GE192.out | refine below_set ?_ GE194.out) | exact HB.out)⟩
          · rw [if_neg c6] at H
            exact absurd H (by simp)
        · rw [if_neg c5] at H
          exact absurd H (by simp)
      · rw [if_neg c4] at H
        have c4b0 : decide (x8_1 < (l0_0.length : Int)) = false := decide_eq_false c4
        clear c4
        obtain rfl := Option.some.inj H
        have hcz17_0 : wr.cell? ⟨gb192, 0, none⟩ = some (.slice A0_0 l0_0.length c0_0) := (blk_cell BK192.out 0).trans rfl
        have hfz17_0 := blk_frozen BK192.out 0
        go_wp2
        go_ret
        exact ⟨by first | rfl | (simp [errW_none, errW_some] <;> rfl) | (simp [*, errW_none, errW_some] <;> rfl), by repeat (first | (with_reducible first | exact HB.out | apply below_alloc | apply pw_below_drewN | apply below_drew1 | refine below_set ?_ GE192.out) | exact HB.out)⟩
def virgationref01_Is.f (k : Nat) (l0_0 : List (S47)) : Option (Bool) := (virgationref01_Nodes.f k l0_0 60).bind fun t197 => (if t197 ≤ 60 then ((virgationref01_depth.f k l0_0).bind fun t198 => (if t198 ≤ 30 then ((virgationref01_few.f k l0_0).bind fun t199 => (some t199)) else (some false))) else (some false))
set_option maxHeartbeats 8000000 in
set_option maxRecDepth 100000 in
theorem virgationref01_Is.calls (k : Nat) (A0_0 : Option Addr) (c0_0 : Nat) (l0_0 : List (S47)) (r : Bool) (w : World) (hr0_0 : Kd.C k47 w A0_0 l0_0.length l0_0) (hc0_0 : l0_0.length ≤ c0_0) (h : virgationref01_Is.f k l0_0 = some r) :
    Calls Tryz.prog 37 #[.agg #[.slice A0_0 l0_0.length c0_0]] w fun e w' => e = .returned (.bool r) ∧ Below w.heap.size w w' := by
  have hu47 := Tryz.underlying47
  have HR0_0 := Aside0.mk hr0_0
  have HC0_0 := Aside0.mk hc0_0
  clear hr0_0 hc0_0
  have HB := Aside0.mk (Below.refl w.heap.size w)
  have H : ((virgationref01_Nodes.f k l0_0 60).bind fun t197 => (if t197 ≤ 60 then ((virgationref01_depth.f k l0_0).bind fun t198 => (if t198 ≤ 30 then ((virgationref01_few.f k l0_0).bind fun t199 => (some t199)) else (some false))) else (some false))) = some r := h
  clear h
  replace H := Option.bind_eq_some_iff.mp H
  obtain ⟨t197, A20, H⟩ := H
  replace H : (if t197 ≤ 60 then ((virgationref01_depth.f k l0_0).bind fun t198 => (if t198 ≤ 30 then ((virgationref01_few.f k l0_0).bind fun t199 => (some t199)) else (some false))) else (some false)) = some r := H
  have A2 := Aside0.mk A20
  clear A20
  by_cases c3 : t197 ≤ 60
  · rw [if_pos c3] at H
    have c3b0 : decide (t197 ≤ 60) = true := decide_eq_true c3
    clear c3
    replace H := Option.bind_eq_some_iff.mp H
    obtain ⟨t198, A40, H⟩ := H
    replace H : (if t198 ≤ 30 then ((virgationref01_few.f k l0_0).bind fun t199 => (some t199)) else (some false)) = some r := H
    have A4 := Aside0.mk A40
    clear A40
    by_cases c5 : t198 ≤ 30
    · rw [if_pos c5] at H
      have c5b0 : decide (t198 ≤ 30) = true := decide_eq_true c5
      clear c5
      replace H := Option.bind_eq_some_iff.mp H
      obtain ⟨t199, A60, H⟩ := H
      replace H : (some t199) = some r := H
      have A6 := Aside0.mk A60
      clear A60
      obtain rfl := Option.some.inj H
      go_enter Tryz.func37, Tryz.ntmps37
      go_wp2_with (first | ((with_reducible refine gate_dst (N := 1) rfl ?_); refine box_event ?hg (N := 1) ?hd (cs := #[.slice A0_0 l0_0.length c0_0]) (t := 47) ?hr ?_; (case hd => rfl); (case hg => rfl); (case hr => first | (go_simp; done) | (go_simp; rfl)); intro gb196 hg w7 hbox hb; have n0_ := Aside0.mk (below_step (by repeat (first | (with_reducible first | exact HB.out | apply below_alloc | apply pw_below_drewN | apply below_drew1) | exact HB.out)) hb); have n1_ := Aside0.mk (hbox); have n2_ := Aside0.mk ((by rw [hg]; exact (below_size (by repeat (first | (with_reducible first | exact HB.out | apply below_alloc | apply pw_below_drewN | apply below_drew1) | exact HB.out))) : w.heap.size ≤ gb196)); have n3_ := Aside0.mk ((by rw [hg]; exact (below_size (by repeat (first | (with_reducible first | exact HB.out | apply below_alloc | apply pw_below_drewN | apply below_drew1) | exact HB.out))) : w.heap.size ≤ gb196)); clear HB; have HB := n0_; have BK196 := n1_; have GW196 := n2_; have GE196 := n3_; clear n0_ n1_ n2_ n3_; clear hb hbox hg; have hcz8_0 : w7.cell? ⟨gb196, 0, none⟩ = some (.slice A0_0 l0_0.length c0_0) := (blk_cell BK196.out 0).trans rfl; have hfz8_0 := blk_frozen BK196.out 0) | ((with_reducible refine gate_callee (f := 88) rfl ?_); refine goesL_ (some 4) rfl rfl Tryz.func88 (by kernel_rfl) rfl #[.agg #[.slice A0_0 l0_0.length c0_0], .int .i64 60] rfl (by (try simp only [List.map_toArray, List.map_cons, List.map_nil]); first | done | rfl | (simp only [List.length_drop, List.length_take]; rfl)) ?_; (with_reducible refine (virgationref01_Nodes.calls k _ _ l0_0 60 t197 _ ?side1 ?side2 A2.out).mono ?_); (case side1 => repeat (first | exact (Kd.C_below HR0_0.out HB.out) | (with_reducible refine Kd.C_alloc ?_ _) | (with_reducible refine Kd.C_drewN ?_ _) | (with_reducible refine Kd.C_drew ?_))); (case side2 => exact HC0_0.out); rintro e w9 ⟨rfl, hb⟩; refine ⟨_, rfl, ?_⟩; have n0_ := Aside0.mk (blk_below (g := gb196) (o := .cells #[.slice A0_0 l0_0.length c0_0] 47 (0, 0)) (by (with_reducible repeat (first | refine blk_drewN ?_ _ | refine blk_drew ?_ | refine blk_alloc ?_ _)); exact BK196.out) hb); have n1_ := Aside0.mk (below_step (by repeat (first | (with_reducible first | exact HB.out | apply below_alloc | apply pw_below_drewN | apply below_drew1 | refine below_set ?_ GE196.out) | exact HB.out)) hb); clear BK196; clear HB; have BK196 := n0_; have HB := n1_; clear n0_ n1_; (try clear hb); (try clear hb2); (try clear hk); (try clear hi); have hcz10_0 : w9.cell? ⟨gb196, 0, none⟩ = some (.slice A0_0 l0_0.length c0_0) := (blk_cell BK196.out 0).trans rfl; have hfz10_0 := blk_frozen BK196.out 0) | (go_at_call 89; (with_reducible refine (virgationref01_depth.calls k _ _ l0_0 t198 _ ?side1 ?side2 A4.out).mono ?_); (case side1 => repeat (first | exact (Kd.C_below HR0_0.out HB.out) | (with_reducible refine Kd.C_alloc ?_ _) | (with_reducible refine Kd.C_drewN ?_ _) | (with_reducible refine Kd.C_drew ?_))); (case side2 => exact HC0_0.out); rintro e w11 ⟨rfl, hb⟩; have n0_ := Aside0.mk (blk_below (g := gb196) (o := .cells #[.slice A0_0 l0_0.length c0_0] 47 (0, 0)) (by (with_reducible repeat (first | refine blk_drewN ?_ _ | refine blk_drew ?_ | refine blk_alloc ?_ _)); exact BK196.out) hb); have n1_ := Aside0.mk (below_step (by repeat (first | (with_reducible first | exact HB.out | apply below_alloc | apply pw_below_drewN | apply below_drew1 | refine below_set ?_ GE196.out) | exact HB.out)) hb); clear BK196; clear HB; have BK196 := n0_; have HB := n1_; clear n0_ n1_; (try clear hb); (try clear hb2); (try clear hk); (try clear hi); have hcz12_0 : w11.cell? ⟨gb196, 0, none⟩ = some (.slice A0_0 l0_0.length c0_0) := (blk_cell BK196.out 0).trans rfl; have hfz12_0 := blk_frozen BK196.out 0) | (go_at_call 90; (with_reducible refine (virgationref01_few.calls k _ _ l0_0 t199 _ ?side1 ?side2 A6.out).mono ?_); (case side1 => repeat (first | exact (Kd.C_below HR0_0.out HB.out) | (with_reducible refine Kd.C_alloc ?_ _) | (with_reducible refine Kd.C_drewN ?_ _) | (with_reducible refine Kd.C_drew ?_))); (case side2 => exact HC0_0.out); rintro e w13 ⟨rfl, hb⟩; have n0_ := Aside0.mk (blk_below (g := gb196) (o := .cells #[.slice A0_0 l0_0.length c0_0] 47 (0, 0)) (by (with_reducible repeat (first | refine blk_drewN ?_ _ | refine blk_drew ?_ | refine blk_alloc ?_ _)); exact BK196.out) hb); have n1_ := Aside0.mk (below_step (by repeat (first | (with_reducible first | exact HB.out | apply below_alloc | apply pw_below_drewN | apply below_drew1 | refine below_set ?_ GE196.out) | exact HB.out)) hb); clear BK196; clear HB; have BK196 := n0_; have HB := n1_; clear n0_ n1_; (try clear hb); (try clear hb2); (try clear hk); (try clear hi)))
      go_ret
      exact ⟨by first | rfl | (simp [errW_none, errW_some] <;> rfl) | (simp [*, errW_none, errW_some] <;> rfl), by repeat (first | (with_reducible first | exact HB.out | apply below_alloc | apply pw_below_drewN | apply below_drew1 | refine below_set ?_ GE196.out) | exact HB.out)⟩
    · rw [if_neg c5] at H
      have c5b0 : decide (t198 ≤ 30) = false := decide_eq_false c5
      clear c5
      obtain rfl := Option.some.inj H
      go_enter Tryz.func37, Tryz.ntmps37
      go_wp2_with (first | ((with_reducible refine gate_dst (N := 1) rfl ?_); refine box_event ?hg (N := 1) ?hd (cs := #[.slice A0_0 l0_0.length c0_0]) (t := 47) ?hr ?_; (case hd => rfl); (case hg => rfl); (case hr => first | (go_simp; done) | (go_simp; rfl)); intro gb196 hg w14 hbox hb; have n0_ := Aside0.mk (below_step (by repeat (first | (with_reducible first | exact HB.out | apply below_alloc | apply pw_below_drewN | apply below_drew1) | exact HB.out)) hb); have n1_ := Aside0.mk (hbox); have n2_ := Aside0.mk ((by rw [hg]; exact (below_size (by repeat (first | (with_reducible first | exact HB.out | apply below_alloc | apply pw_below_drewN | apply below_drew1) | exact HB.out))) : w.heap.size ≤ gb196)); have n3_ := Aside0.mk ((by rw [hg]; exact (below_size (by repeat (first | (with_reducible first | exact HB.out | apply below_alloc | apply pw_below_drewN | apply below_drew1) | exact HB.out))) : w.heap.size ≤ gb196)); clear HB; have HB := n0_; have BK196 := n1_; have GW196 := n2_; have GE196 := n3_; clear n0_ n1_ n2_ n3_; clear hb hbox hg; have hcz15_0 : w14.cell? ⟨gb196, 0, none⟩ = some (.slice A0_0 l0_0.length c0_0) := (blk_cell BK196.out 0).trans rfl; have hfz15_0 := blk_frozen BK196.out 0) | ((with_reducible refine gate_callee (f := 88) rfl ?_); refine goesL_ (some 4) rfl rfl Tryz.func88 (by kernel_rfl) rfl #[.agg #[.slice A0_0 l0_0.length c0_0], .int .i64 60] rfl (by (try simp only [List.map_toArray, List.map_cons, List.map_nil]); first | done | rfl | (simp only [List.length_drop, List.length_take]; rfl)) ?_; (with_reducible refine (virgationref01_Nodes.calls k _ _ l0_0 60 t197 _ ?side1 ?side2 A2.out).mono ?_); (case side1 => repeat (first | exact (Kd.C_below HR0_0.out HB.out) | (with_reducible refine Kd.C_alloc ?_ _) | (with_reducible refine Kd.C_drewN ?_ _) | (with_reducible refine Kd.C_drew ?_))); (case side2 => exact HC0_0.out); rintro e w16 ⟨rfl, hb⟩; refine ⟨_, rfl, ?_⟩; have n0_ := Aside0.mk (blk_below (g := gb196) (o := .cells #[.slice A0_0 l0_0.length c0_0] 47 (0, 0)) (by (with_reducible repeat (first | refine blk_drewN ?_ _ | refine blk_drew ?_ | refine blk_alloc ?_ _)); exact BK196.out) hb); have n1_ := Aside0.mk (below_step (by repeat (first | (with_reducible first | exact HB.out | apply below_alloc | apply pw_below_drewN | apply below_drew1 | refine below_set ?_ GE196.out) | exact HB.out)) hb); clear BK196; clear HB; have BK196 := n0_; have HB := n1_; clear n0_ n1_; (try clear hb); (try clear hb2); (try clear hk); (try clear hi); have hcz17_0 : w16.cell? ⟨gb196, 0, none⟩ = some (.slice A0_0 l0_0.length c0_0) := (blk_cell BK196.out 0).trans rfl; have hfz17_0 := blk_frozen BK196.out 0) | (go_at_call 89; (with_reducible refine (virgationref01_depth.calls k _ _ l0_0 t198 _ ?side1 ?side2 A4.out).mono ?_); (case side1 => repeat (first | exact (Kd.C_below HR0_0.out HB.out) | (with_reducible refine Kd.C_alloc ?_ _) | (with_reducible refine Kd.C_drewN ?_ _) | (with_reducible refine Kd.C_drew ?_))); (case side2 => exact HC0_0.out); rintro e w18 ⟨rfl, hb⟩; have n0_ := Aside0.mk (blk_below (g := gb196) (o := .cells #[.slice A0_0 l0_0.length c0_0] 47 (0, 0)) (by (with_reducible repeat (first | refine blk_drewN ?_ _ | refine blk_drew ?_ | refine blk_alloc ?_ _)); exact BK196.out) hb); have n1_ := Aside0.mk (below_step (by repeat (first | (with_reducible first | exact HB.out | apply below_alloc | apply pw_below_drewN | apply below_drew1 | refine below_set ?_ GE196.out) | exact HB.out)) hb); clear BK196; clear HB; have BK196 := n0_; have HB := n1_; clear n0_ n1_; (try clear hb); (try clear hb2); (try clear hk); (try clear hi)))
      go_ret
      exact ⟨by first | rfl | (simp [errW_none, errW_some] <;> rfl) | (simp [*, errW_none, errW_some] <;> rfl), by repeat (first | (with_reducible first | exact HB.out | apply below_alloc | apply pw_below_drewN | apply below_drew1 | refine below_set ?_ GE196.out) | exact HB.out)⟩
  · rw [if_neg c3] at H
    have c3b0 : decide (t197 ≤ 60) = false := decide_eq_false c3
    clear c3
    obtain rfl := Option.some.inj H
    go_enter Tryz.func37, Tryz.ntmps37
    go_wp2_with (first | ((with_reducible refine gate_dst (N := 1) rfl ?_); refine box_event ?hg (N := 1) ?hd (cs := #[.slice A0_0 l0_0.length c0_0]) (t := 47) ?hr ?_; (case hd => rfl); (case hg => rfl); (case hr => first | (go_simp; done) | (go_simp; rfl)); intro gb196 hg w19 hbox hb; have n0_ := Aside0.mk (below_step (by repeat (first | (with_reducible first | exact HB.out | apply below_alloc | apply pw_below_drewN | apply below_drew1) | exact HB.out)) hb); have n1_ := Aside0.mk (hbox); have n2_ := Aside0.mk ((by rw [hg]; exact (below_size (by repeat (first | (with_reducible first | exact HB.out | apply below_alloc | apply pw_below_drewN | apply below_drew1) | exact HB.out))) : w.heap.size ≤ gb196)); have n3_ := Aside0.mk ((by rw [hg]; exact (below_size (by repeat (first | (with_reducible first | exact HB.out | apply below_alloc | apply pw_below_drewN | apply below_drew1) | exact HB.out))) : w.heap.size ≤ gb196)); clear HB; have HB := n0_; have BK196 := n1_; have GW196 := n2_; have GE196 := n3_; clear n0_ n1_ n2_ n3_; clear hb hbox hg; have hcz20_0 : w19.cell? ⟨gb196, 0, none⟩ = some (.slice A0_0 l0_0.length c0_0) := (blk_cell BK196.out 0).trans rfl; have hfz20_0 := blk_frozen BK196.out 0) | ((with_reducible refine gate_callee (f := 88) rfl ?_); refine goesL_ (some 4) rfl rfl Tryz.func88 (by kernel_rfl) rfl #[.agg #[.slice A0_0 l0_0.length c0_0], .int .i64 60] rfl (by (try simp only [List.map_toArray, List.map_cons, List.map_nil]); first | done | rfl | (simp only [List.length_drop, List.length_take]; rfl)) ?_; (with_reducible refine (virgationref01_Nodes.calls k _ _ l0_0 60 t197 _ ?side1 ?side2 A2.out).mono ?_); (case side1 => repeat (first | exact (Kd.C_below HR0_0.out HB.out) | (with_reducible refine Kd.C_alloc ?_ _) | (with_reducible refine Kd.C_drewN ?_ _) | (with_reducible refine Kd.C_drew ?_))); (case side2 => exact HC0_0.out); rintro e w21 ⟨rfl, hb⟩; refine ⟨_, rfl, ?_⟩; have n0_ := Aside0.mk (blk_below (g := gb196) (o := .cells #[.slice A0_0 l0_0.length c0_0] 47 (0, 0)) (by (with_reducible repeat (first | refine blk_drewN ?_ _ | refine blk_drew ?_ | refine blk_alloc ?_ _)); exact BK196.out) hb); have n1_ := Aside0.mk (below_step (by repeat (first | (with_reducible first | exact HB.out | apply below_alloc | apply pw_below_drewN | apply below_drew1 | refine below_set ?_ GE196.out) | exact HB.out)) hb); clear BK196; clear HB; have BK196 := n0_; have HB := n1_; clear n0_ n1_; (try clear hb); (try clear hb2); (try clear hk); (try clear hi)))
    go_ret
    exact ⟨by first | rfl | (simp [errW_none, errW_some] <;> rfl) | (simp [*, errW_none, errW_some] <;> rfl), by repeat (first | (with_reducible first | exact HB.out | apply below_alloc | apply pw_below_drewN | apply below_drew1 | refine below_set ?_ GE196.out) | exact HB.out)⟩
mutual
def virgationref01_Equal.l0 : Nat → Int → Int → List (S47) → List (S47) → Option (Bool)
  | 0, _, _, _, _ => none
  | k + 1, x15, x16, x201000, x202000 => if x16 < x15 then (if 0 ≤ x16 then (if x16 < (x201000.length : Int) then (if x16 < (x202000.length : Int) then ((virgationref01_Equal.f k ((rd_T47 x201000 x16).f0) ((rd_T47 x202000 x16).f0)).bind fun t204 => (if t204 = true then (virgationref01_Equal.l0 k x15 (wrap64 (x16 + 1)) x201000 x202000) else (some false))) else (none)) else (none)) else (none)) else (some true)
def virgationref01_Equal.f : Nat → List (S47) → List (S47) → Option (Bool)
  | 0, _, _ => none
  | k + 1, l0_0, l1_0 => if (l0_0.length : Int) = (l1_0.length : Int) then (virgationref01_Equal.l0 k (l0_0.length : Int) 0 l0_0 l1_0) else (some false)
end
def virgationref01_Equal.T6 : Bool × List (List Nat × List Nat) := (true, [([], []), ([0], [0]), ([], []), ([1, 2], [1, 2]), ([3], [3]), ([], []), ([5], [5]), ([], []), ([6, 7], [6, 7]), ([8], [8]), ([4, 9], [4, 9]), ([10], [10])])
def virgationref01_Equal.B6 : List Nat := [0, 1, 0, 7, 15, 0, 32, 0, 224, 480, 1023, 2047]
theorem virgationref01_Equal.tab6 : rtab .any (opsOf Tryz.f86 6) = virgationref01_Equal.T6 := by kernel_rfl
theorem virgationref01_Equal.bits6 : waitsOk virgationref01_Equal.T6.2 virgationref01_Equal.B6 = true := by kernel_rfl
set_option maxHeartbeats 8000000 in
set_option maxRecDepth 100000 in
theorem virgationref01_Equal.calls (k : Nat) : ∀ (A0_0 : Option Addr) (c0_0 : Nat) (l0_0 : List (S47)) (A1_0 : Option Addr) (c1_0 : Nat) (l1_0 : List (S47)) (r : Bool) (w : World) (hr0_0 : Kd.C k47 w A0_0 l0_0.length l0_0) (hc0_0 : l0_0.length ≤ c0_0) (hr1_0 : Kd.C k47 w A1_0 l1_0.length l1_0) (hc1_0 : l1_0.length ≤ c1_0) (h : virgationref01_Equal.f k l0_0 l1_0 = some r),
    Calls Tryz.prog 86 #[.agg #[.slice A0_0 l0_0.length c0_0], .agg #[.slice A1_0 l1_0.length c1_0]] w fun e w' => e = .returned (.bool r) ∧ Below w.heap.size w w' := by
  induction k using Nat.strongRecOn with
  | _ k ih =>
  intro A0_0 c0_0 l0_0 A1_0 c1_0 l1_0 r w hr0_0 hc0_0 hr1_0 hc1_0 h
  cases k with
  | zero => exact absurd h (by simp [virgationref01_Equal.f])
  | succ k =>
  simp only [virgationref01_Equal.f] at h
  have hu47 := Tryz.underlying47
  have HR0_0 := Aside0.mk hr0_0
  have HC0_0 := Aside0.mk hc0_0
  clear hr0_0 hc0_0
  have HR1_0 := Aside0.mk hr1_0
  have HC1_0 := Aside0.mk hc1_0
  clear hr1_0 hc1_0
  have HB := Aside0.mk (Below.refl w.heap.size w)
  have H : (if (l0_0.length : Int) = (l1_0.length : Int) then (virgationref01_Equal.l0 k (l0_0.length : Int) 0 l0_0 l1_0) else (some false)) = some r := h
  clear h
  by_cases c3 : (l0_0.length : Int) = (l1_0.length : Int)
  · rw [if_pos c3] at H
    have c3b0 : ((l0_0.length : Int) == (l1_0.length : Int)) = true := beq_iff_eq.mpr c3
    have c3b1 : ((l0_0.length : Int) != (l1_0.length : Int)) = false := bne_eq_false_iff_eq.mpr c3
    have c3b2 : (l0_0.length == l1_0.length) = true := by first | simpa using c3 | (simp at c3 ⊢; omega)
    clear c3
    have H' := Aside0.mk H
    clear H
    go_enter Tryz.func86, Tryz.ntmps86
    go_wp2_with (first | ((with_reducible refine gate_dst (N := 2) rfl ?_); refine box_event ?hg (N := 2) ?hd (cs := #[.slice A0_0 l0_0.length c0_0]) (t := 47) ?hr ?_; (case hd => rfl); (case hg => rfl); (case hr => first | (go_simp; done) | (go_simp; rfl)); intro gb200 hg w4 hbox hb; have n0_ := Aside0.mk (below_step (by repeat (first | (with_reducible first | exact HB.out | apply below_alloc | apply pw_below_drewN | apply below_drew1) | exact HB.out)) hb); have n1_ := Aside0.mk (hbox); have n2_ := Aside0.mk ((by rw [hg]; exact (below_size (by repeat (first | (with_reducible first | exact HB.out | apply below_alloc | apply pw_below_drewN | apply below_drew1) | exact HB.out))) : w.heap.size ≤ gb200)); have n3_ := Aside0.mk ((by rw [hg]; exact (below_size (by repeat (first | (with_reducible first | exact HB.out | apply below_alloc | apply pw_below_drewN | apply below_drew1) | exact HB.out))) : w.heap.size ≤ gb200)); clear HB; have HB := n0_; have BK200 := n1_; have GW200 := n2_; have GE200 := n3_; clear n0_ n1_ n2_ n3_; clear hb hbox hg) | ((with_reducible refine gate_dst (N := 3) rfl ?_); refine box_event ?hg (N := 3) ?hd (cs := #[.slice A1_0 l1_0.length c1_0]) (t := 47) ?hr ?_; (case hd => rfl); (case hg => rfl); (case hr => first | (go_simp; done) | (go_simp; rfl)); intro gb201 hg w5 hbox hb; have n0_ := Aside0.mk (blk_below (g := gb200) (o := .cells #[.slice A0_0 l0_0.length c0_0] 47 (0, 0)) (by (with_reducible repeat (first | refine blk_drewN ?_ _ | refine blk_drew ?_ | refine blk_alloc ?_ _)); exact BK200.out) hb); have n1_ := Aside0.mk (below_step (by repeat (first | (with_reducible first | exact HB.out | apply below_alloc | apply pw_below_drewN | apply below_drew1 | refine below_set ?_ GE200.out) | exact HB.out)) hb); have n2_ := Aside0.mk (hbox); have n3_ := Aside0.mk ((by rw [hg]; exact (below_size (by repeat (first | (with_reducible first | exact HB.out | apply below_alloc | apply pw_below_drewN | apply below_drew1 | refine below_set ?_ GE200.out) | exact HB.out))) : w.heap.size ≤ gb201)); have n4_ := Aside0.mk ((by rw [hg]; exact (below_size (by repeat (first | (with_reducible first | exact HB.out | apply below_alloc | apply pw_below_drewN | apply below_drew1 | refine below_set ?_ GE200.out) | exact HB.out))) : w.heap.size ≤ gb201)); have n5_ := Aside0.mk ((by rw [hg]; exact Nat.ne_of_lt (blk_lt (g := gb200) (o := .cells #[.slice A0_0 l0_0.length c0_0] 47 (0, 0)) (by (with_reducible repeat (first | refine blk_drewN ?_ _ | refine blk_drew ?_ | refine blk_alloc ?_ _)); exact BK200.out)) : gb200 ≠ gb201)); have n6_ := Aside0.mk ((by rw [hg]; exact Nat.ne_of_gt (blk_lt (g := gb200) (o := .cells #[.slice A0_0 l0_0.length c0_0] 47 (0, 0)) (by (with_reducible repeat (first | refine blk_drewN ?_ _ | refine blk_drew ?_ | refine blk_alloc ?_ _)); exact BK200.out)) : gb201 ≠ gb200)); clear BK200; clear HB; have BK200 := n0_; have HB := n1_; have BK201 := n2_; have GW201 := n3_; have GE201 := n4_; have NB200_201 := n5_; have NB201_200 := n6_; clear n0_ n1_ n2_ n3_ n4_ n5_ n6_; clear hb hbox hg; have hnb6 := NB200_201.out; have hnc6 := NB201_200.out; have hcz7_0 : w5.cell? ⟨gb200, 0, none⟩ = some (.slice A0_0 l0_0.length c0_0) := (blk_cell BK200.out 0).trans rfl; have hfz7_0 := blk_frozen BK200.out 0; have hcz8_0 : w5.cell? ⟨gb201, 0, none⟩ = some (.slice A1_0 l1_0.length c1_0) := (blk_cell BK201.out 0).trans rfl; have hfz8_0 := blk_frozen BK201.out 0))
    go_loopg [16] k (fun kq v16 w' => ∃ (x16_1 : Int), v16 = .int .i64 x16_1 ∧ Aside0 (virgationref01_Equal.l0 kq (l0_0.length : Int) x16_1 l0_0 l1_0 = some r) ∧ Aside0 (kq ≤ k) ∧ Aside0 (w'.heap[gb200]? = some (.cells #[(.slice A0_0 l0_0.length c0_0)] 47 (0, 0))) ∧ Aside0 (w'.heap[gb201]? = some (.cells #[(.slice A1_0 l1_0.length c1_0)] 47 (0, 0))) ∧ Aside0 (Below w.heap.size w w'))
    case atStart => exact ⟨(0), (by first | rfl | (simp; done) | (simp [*]; done)), H', ⟨Nat.le_refl _⟩, ⟨by (with_reducible repeat (first | refine blk_drewN ?_ _ | refine blk_drew ?_ | refine blk_alloc ?_ _)); exact BK200.out⟩, ⟨by (with_reducible repeat (first | refine blk_drewN ?_ _ | refine blk_drew ?_ | refine blk_alloc ?_ _)); exact BK201.out⟩, ⟨by repeat (first | (with_reducible first | exact HB.out | apply below_alloc | apply pw_below_drewN | apply below_drew1 | refine below_set ?_ GE200.out | refine below_set ?_ GE201.out) | exact HB.out)⟩⟩
    case round =>
      clear H'
      try clear c1
      try clear p2
      try clear c3
      try clear c3b0
      try clear c3b1
      try clear c3b2
      try clear c6
      try clear c8
      try clear hcz7_0
      try clear hcz8_0
      try clear hfz7_0
      try clear hfz8_0
      obtain ⟨x16_1, rfl, HA, HK1, BK200, BK201, HB⟩ := hrel
      cases gk with
      | zero => exact absurd HA.out (by simp [virgationref01_Equal.l0])
      | succ k1 =>
        have H := HA.out
        clear HA
        simp only [virgationref01_Equal.l0] at H
        by_cases c9 : x16_1 < (l0_0.length : Int)
        · rw [if_pos c9] at H
          have c9b0 : decide (x16_1 < (l0_0.length : Int)) = true := decide_eq_true c9
          clear c9
          by_cases c10 : 0 ≤ x16_1
          · rw [if_pos c10] at H
            have c10b0 : decide (0 ≤ x16_1) = true := decide_eq_true c10
            clear c10
            by_cases c11 : x16_1 < (l0_0.length : Int)
            · rw [if_pos c11] at H
              have c11b0 : decide (x16_1 < (l0_0.length : Int)) = true := decide_eq_true c11
              clear c11
              by_cases c12 : x16_1 < (l1_0.length : Int)
              · rw [if_pos c12] at H
                have c12b0 : decide (x16_1 < (l1_0.length : Int)) = true := decide_eq_true c12
                clear c12
                replace H := Option.bind_eq_some_iff.mp H
                obtain ⟨t204, A130, H⟩ := H
                replace H : (if t204 = true then (virgationref01_Equal.l0 k1 (l0_0.length : Int) (wrap64 (x16_1 + 1)) l0_0 l1_0) else (some false)) = some r := H
                have A13 := Aside0.mk A130
                clear A130
                by_cases c14 : t204 = true
                · subst c14
                  have H1 : (virgationref01_Equal.l0 k1 (l0_0.length : Int) (wrap64 (x16_1 + 1)) l0_0 l1_0) = some r := by rw [if_pos rfl] at H; exact H
                  clear H
                  have H := H1
                  clear H1
                  have H' := Aside0.mk H
                  clear H
                  try go_wp2
                  have n0_ := Aside0.mk (blk_drew BK200.out)
                  have n1_ := Aside0.mk (blk_drew BK201.out)
                  have n2_ := Aside0.mk (below_drew1 HB.out)
                  clear BK200
                  clear BK201
                  clear HB
                  have BK200 := n0_
                  have BK201 := n1_
                  have HB := n2_
                  clear n0_ n1_ n2_
                  have p202 : 0 ≤ (x16_1 : Int) := of_decide_eq_true (by first | (with_reducible assumption) | assumption)
                  have q202 : x16_1 < (l0_0.length : Int) := of_decide_eq_true (by first | (with_reducible assumption) | assumption)
                  obtain ⟨ad202, A202_0, c202_0, e202, hx202_0, hl202_0, hi202_0⟩ := at_T47 HR0_0.out x16_1 p202 q202
                  have hw202_0 := hx202_0
                  cases e202
                  replace hx202_0 := (HB.out.cell (World.block_lt_of_cell? w _ hx202_0)).trans hx202_0
                  have HR202_0 := Aside0.mk hi202_0
                  have HC202_0 := Aside0.mk hl202_0
                  clear hi202_0 hl202_0
                  replace p202 := eq_true p202
                  replace q202 := eq_true q202
                  have p203 : 0 ≤ (x16_1 : Int) := of_decide_eq_true (by first | (with_reducible assumption) | assumption)
                  have q203 : x16_1 < (l1_0.length : Int) := of_decide_eq_true (by first | (with_reducible assumption) | assumption)
                  obtain ⟨ad203, A203_0, c203_0, e203, hx203_0, hl203_0, hi203_0⟩ := at_T47 HR1_0.out x16_1 p203 q203
                  have hw203_0 := hx203_0
                  cases e203
                  replace hx203_0 := (HB.out.cell (World.block_lt_of_cell? w _ hx203_0)).trans hx203_0
                  have HR203_0 := Aside0.mk hi203_0
                  have HC203_0 := Aside0.mk hl203_0
                  clear hi203_0 hl203_0
                  replace p203 := eq_true p203
                  replace q203 := eq_true q203
                  refine start_ (n := 12) (S := fun w' => w'.cell? ⟨gb200, 0, none⟩ = some (.slice (some ad202) l0_0.length c0_0) ∧ w'.cell? ⟨gb201, 0, none⟩ = some (.slice (some ad203) l1_0.length c1_0) ∧ w'.cell? (ad202.add (x16_1).toNat) = some (.slice A202_0 ((rd_T47 l0_0 x16_1).f0).length c202_0) ∧ w'.cell? (ad203.add (x16_1).toNat) = some (.slice A203_0 ((rd_T47 l1_0 x16_1).f0).length c203_0)) (ds := []) #[false, false, false, false, false, false, false, false, false, false, false, false] (by kernel_rfl) rfl rfl ⟨(blk_cell BK200.out 0).trans rfl, (blk_cell BK201.out 0).trans rfl, ((HB.out.cell (World.block_lt_of_cell? w _ hw202_0)).trans hw202_0), ((HB.out.cell (World.block_lt_of_cell? w _ hw203_0)).trans hw203_0)⟩ (fun hHeld => ?_); refine with_tabW virgationref01_Equal.tab6 virgationref01_Equal.bits6 (fun HT_ HW_ => ?_)
                  generalize wr.drew = w15 at BK200 BK201 HB HR202_0 HR203_0 hx202_0 hx203_0 hHeld ⊢
                  refine pure_ (i := 0) (N := some 19) (v := ?_) (a' := ?_) #[true, false, false, false, false, false, false, false, false, false, false, false] rfl rfl (any_of HT_.out (by kernel_rfl)) (fun _ _ _ h => h) (Or.inl ⟨by rfl, ?_⟩) ?_ ?_
                  rotate_left
                  · intro w'
                    go_simp
                    with_reducible rfl
                  rotate_left
                  · simp only [Act.put, List.setIfInBounds_toArray, List.set_cons_zero, List.set_cons_succ, i64_w, i32_w]
                    rfl
                  refine pure_ (i := 2) (N := some 21) (v := ?_) (a' := ?_) #[true, false, true, false, false, false, false, false, false, false, false, false] rfl rfl (any_of HT_.out (by kernel_rfl)) (fun _ _ _ h => h) (Or.inl ⟨by rfl, ?_⟩) ?_ ?_
                  rotate_left
                  · intro w'
                    go_simp
                    with_reducible rfl
                  rotate_left
                  · simp only [Act.put, List.setIfInBounds_toArray, List.set_cons_zero, List.set_cons_succ, i64_w, i32_w]
                    rfl
                  refine pure_ (i := 5) (N := some 24) (v := ?_) (a' := ?_) #[true, false, true, false, false, true, false, false, false, false, false, false] rfl rfl (any_of HT_.out (by kernel_rfl)) (fun _ _ _ h => h) (Or.inl ⟨by rfl, ?_⟩) ?_ ?_
                  rotate_left
                  · intro w'
                    go_simp
                    with_reducible rfl
                  rotate_left
                  · simp only [Act.put, List.setIfInBounds_toArray, List.set_cons_zero, List.set_cons_succ, i64_w, i32_w]
                    rfl
                  refine pure_ (i := 7) (N := some 26) (v := ?_) (a' := ?_) #[true, false, true, false, false, true, false, true, false, false, false, false] rfl rfl (any_of HT_.out (by kernel_rfl)) (fun _ _ _ h => h) (Or.inl ⟨by rfl, ?_⟩) ?_ ?_
                  rotate_left
                  · intro w'
                    go_simp
                    with_reducible rfl
                  rotate_left
                  · simp only [Act.put, List.setIfInBounds_toArray, List.set_cons_zero, List.set_cons_succ, i64_w, i32_w]
                    rfl
                  refine take_ (i := 1) (N := some 20) (v := ?_) (a' := ?_) #[true, true, true, false, false, true, false, true, false, false, false, false] rfl rfl (take_ofW HT_.out HW_.out (by kernel_rfl)) (fun _ _ _ h => h) (Or.inl ⟨by rfl, ?_⟩) hHeld ?_ ?_
                  rotate_left
                  · rintro w' ⟨s0, s1, s2, s3⟩
                    go_simp
                    with_reducible rfl
                  rotate_left
                  · simp only [Act.put, List.setIfInBounds_toArray, List.set_cons_zero, List.set_cons_succ, i64_w, i32_w]
                    rfl
                  refine pure_ (i := 3) (N := some 22) (v := ?_) (a' := ?_) #[true, true, true, true, false, true, false, true, false, false, false, false] rfl rfl (any_of HT_.out (by kernel_rfl)) (fun _ _ _ h => h) (Or.inl ⟨by rfl, ?_⟩) ?_ ?_
                  rotate_left
                  · intro w'
                    go_simp
                    with_reducible rfl
                  rotate_left
                  · simp only [Act.put, List.setIfInBounds_toArray, List.set_cons_zero, List.set_cons_succ, i64_w, i32_w]
                    rfl
                  refine take_ (i := 4) (N := some 23) (v := ?_) (a' := ?_) #[true, true, true, true, true, true, false, true, false, false, false, false] rfl rfl (take_ofW HT_.out HW_.out (by kernel_rfl)) (fun _ _ _ h => h) (Or.inl ⟨by rfl, ?_⟩) hHeld ?_ ?_
                  rotate_left
                  · rintro w' ⟨s0, s1, s2, s3⟩
                    go_simp
                    with_reducible rfl
                  rotate_left
                  · simp only [Act.put, List.setIfInBounds_toArray, List.set_cons_zero, List.set_cons_succ, i64_w, i32_w]
                    rfl
                  refine take_ (i := 6) (N := some 25) (v := ?_) (a' := ?_) #[true, true, true, true, true, true, true, true, false, false, false, false] rfl rfl (take_ofW HT_.out HW_.out (by kernel_rfl)) (fun _ _ _ h => h) (Or.inl ⟨by rfl, ?_⟩) hHeld ?_ ?_
                  rotate_left
                  · rintro w' ⟨s0, s1, s2, s3⟩
                    go_simp
                    with_reducible rfl
                  rotate_left
                  · simp only [Act.put, List.setIfInBounds_toArray, List.set_cons_zero, List.set_cons_succ, i64_w, i32_w]
                    rfl
                  refine pure_ (i := 8) (N := some 27) (v := ?_) (a' := ?_) #[true, true, true, true, true, true, true, true, true, false, false, false] rfl rfl (any_of HT_.out (by kernel_rfl)) (fun _ _ _ h => h) (Or.inl ⟨by rfl, ?_⟩) ?_ ?_
                  rotate_left
                  · intro w'
                    go_simp
                    with_reducible rfl
                  rotate_left
                  · simp only [Act.put, List.setIfInBounds_toArray, List.set_cons_zero, List.set_cons_succ, i64_w, i32_w]
                    rfl
                  refine take_ (i := 9) (N := some 28) (v := ?_) (a' := ?_) #[true, true, true, true, true, true, true, true, true, true, false, false] rfl rfl (take_ofW HT_.out HW_.out (by kernel_rfl)) (fun _ _ _ h => h) (Or.inl ⟨by rfl, ?_⟩) hHeld ?_ ?_
                  rotate_left
                  · rintro w' ⟨s0, s1, s2, s3⟩
                    go_simp
                    with_reducible rfl
                  rotate_left
                  · simp only [Act.put, List.setIfInBounds_toArray, List.set_cons_zero, List.set_cons_succ, i64_w, i32_w]
                    rfl
                  refine one_ (i := 10) (N := some 29) #[true, true, true, true, true, true, true, true, true, true, true, false] rfl rfl (one_of HT_.out (by kernel_rfl)) (by decide) (fun K hK => ?_)
                  refine goes_ Tryz.func86 (by kernel_rfl) rfl #[.agg #[.slice A202_0 ((rd_T47 l0_0 x16_1).f0).length c202_0], .agg #[.slice A203_0 ((rd_T47 l1_0 x16_1).f0).length c203_0]] (by rfl) rfl rfl (by (try simp only [List.map_toArray, List.map_cons, List.map_nil]); first | done | rfl | (simp only [List.length_drop, List.length_take]; rfl)) ?_
                  with_reducible refine (ih k1 (by have := HK1.out; omega) _ _ ((rd_T47 l0_0 x16_1).f0) _ _ ((rd_T47 l1_0 x16_1).f0) true _ ?side1 ?side2 ?side3 ?side4 A13.out).mono ?_
                  (case side1 => repeat (first | exact (Kd.C_below HR202_0.out HB.out) | (with_reducible refine Kd.C_alloc ?_ _) | (with_reducible refine Kd.C_drewN ?_ _) | (with_reducible refine Kd.C_drew ?_)))
                  (case side2 => exact HC202_0.out)
                  (case side3 => repeat (first | exact (Kd.C_below HR203_0.out HB.out) | (with_reducible refine Kd.C_alloc ?_ _) | (with_reducible refine Kd.C_drewN ?_ _) | (with_reducible refine Kd.C_drew ?_)))
                  (case side4 => exact HC203_0.out)
                  rintro e w16 ⟨rfl, hb⟩
                  refine ⟨_, rfl, ?_⟩
                  have n0_ := Aside0.mk (blk_below (g := gb200) (o := .cells #[.slice (some ad202) l0_0.length c0_0] 47 (0, 0)) (by (with_reducible repeat (first | refine blk_drewN ?_ _ | refine blk_drew ?_ | refine blk_alloc ?_ _)); exact BK200.out) hb)
                  have n1_ := Aside0.mk (blk_below (g := gb201) (o := .cells #[.slice (some ad203) l1_0.length c1_0] 47 (0, 0)) (by (with_reducible repeat (first | refine blk_drewN ?_ _ | refine blk_drew ?_ | refine blk_alloc ?_ _)); exact BK201.out) hb)
                  have n2_ := Aside0.mk (below_step (by repeat (first | (with_reducible first | exact HB.out | apply below_alloc | apply pw_below_drewN | apply below_drew1 | refine below_set ?_ GE200.out | refine below_set ?_ GE201.out) | exact HB.out)) hb)
                  clear BK200
                  clear BK201
                  clear HB
                  have BK200 := n0_
                  have BK201 := n1_
                  have HB := n2_
                  clear n0_ n1_ n2_
                  (try clear hb)
                  (try clear hb2)
                  (try clear hk)
                  (try clear hi)
                  refine hK.out _ _ ⟨(blk_cell BK200.out 0).trans rfl, (blk_cell BK201.out 0).trans rfl, ((HB.out.cell (World.block_lt_of_cell? w _ hw202_0)).trans hw202_0), ((HB.out.cell (World.block_lt_of_cell? w _ hw203_0)).trans hw203_0)⟩ (fun hHeld => ?_)
                  clear hK K
                  refine norm_ (a' := ?_) ?_ ?_
                  rotate_left
                  · show Act.put _ (some 29) _ = _
                    simp only [Act.put, List.setIfInBounds_toArray, List.set_cons_zero, List.set_cons_succ, i64_w, i32_w]
                    rfl
                  refine pure_ (i := 11) (N := some 30) (v := ?_) (a' := ?_) #[true, true, true, true, true, true, true, true, true, true, true, true] rfl rfl (any_of HT_.out (by kernel_rfl)) (fun _ _ _ h => h) (Or.inl ⟨by rfl, ?_⟩) ?_ ?_
                  rotate_left
                  · intro w'
                    go_simp
                    with_reducible rfl
                  rotate_left
                  · simp only [Act.put, List.setIfInBounds_toArray, List.set_cons_zero, List.set_cons_succ, i64_w, i32_w]
                    rfl
                  refine done_ (done_of HT_.out (by kernel_rfl)) ?_
                  try go_wp2
                  go_roundg k1
                  case measure => have := HK1.out; omega
                  case rel => exact ⟨(wrap64 (x16_1 + 1)), (by first | rfl | (simp; done) | (simp [*]; done)), H', ⟨by have := HK1.out; omega⟩, ⟨by (with_reducible repeat (first | refine blk_drewN ?_ _ | refine blk_drew ?_ | refine blk_alloc ?_ _)); exact BK200.out⟩, ⟨by (with_reducible repeat (first | refine blk_drewN ?_ _ | refine blk_drew ?_ | refine blk_alloc ?_ _)); exact BK201.out⟩, ⟨by repeat (first | (with_reducible first | exact HB.out | apply below_alloc | apply pw_below_drewN | apply below_drew1 | refine below_set ?_ GE200.out | refine below_set ?_ GE201.out) | exact HB.out)⟩⟩
                · replace c14 := Bool.eq_false_iff.mpr c14
                  subst c14
                  have H1 : (some false) = some r := by rw [if_neg (show ¬ (false = true) by decide)] at H; exact H
                  clear H
                  have H := H1
                  clear H1
                  obtain rfl := Option.some.inj H
                  try go_wp2
                  have n0_ := Aside0.mk (blk_drew BK200.out)
                  have n1_ := Aside0.mk (blk_drew BK201.out)
                  have n2_ := Aside0.mk (below_drew1 HB.out)
                  clear BK200
                  clear BK201
                  clear HB
                  have BK200 := n0_
                  have BK201 := n1_
                  have HB := n2_
                  clear n0_ n1_ n2_
                  have p202 : 0 ≤ (x16_1 : Int) := of_decide_eq_true (by first | (with_reducible assumption) | assumption)
                  have q202 : x16_1 < (l0_0.length : Int) := of_decide_eq_true (by first | (with_reducible assumption) | assumption)
                  obtain ⟨ad202, A202_0, c202_0, e202, hx202_0, hl202_0, hi202_0⟩ := at_T47 HR0_0.out x16_1 p202 q202
                  have hw202_0 := hx202_0
                  cases e202
                  replace hx202_0 := (HB.out.cell (World.block_lt_of_cell? w _ hx202_0)).trans hx202_0
                  have HR202_0 := Aside0.mk hi202_0
                  have HC202_0 := Aside0.mk hl202_0
                  clear hi202_0 hl202_0
                  replace p202 := eq_true p202
                  replace q202 := eq_true q202
                  have p203 : 0 ≤ (x16_1 : Int) := of_decide_eq_true (by first | (with_reducible assumption) | assumption)
                  have q203 : x16_1 < (l1_0.length : Int) := of_decide_eq_true (by first | (with_reducible assumption) | assumption)
                  obtain ⟨ad203, A203_0, c203_0, e203, hx203_0, hl203_0, hi203_0⟩ := at_T47 HR1_0.out x16_1 p203 q203
                  have hw203_0 := hx203_0
                  cases e203
                  replace hx203_0 := (HB.out.cell (World.block_lt_of_cell? w _ hx203_0)).trans hx203_0
                  have HR203_0 := Aside0.mk hi203_0
                  have HC203_0 := Aside0.mk hl203_0
                  clear hi203_0 hl203_0
                  replace p203 := eq_true p203
                  replace q203 := eq_true q203
                  refine start_ (n := 12) (S := fun w' => w'.cell? ⟨gb200, 0, none⟩ = some (.slice (some ad202) l0_0.length c0_0) ∧ w'.cell? ⟨gb201, 0, none⟩ = some (.slice (some ad203) l1_0.length c1_0) ∧ w'.cell? (ad202.add (x16_1).toNat) = some (.slice A202_0 ((rd_T47 l0_0 x16_1).f0).length c202_0) ∧ w'.cell? (ad203.add (x16_1).toNat) = some (.slice A203_0 ((rd_T47 l1_0 x16_1).f0).length c203_0)) (ds := []) #[false, false, false, false, false, false, false, false, false, false, false, false] (by kernel_rfl) rfl rfl ⟨(blk_cell BK200.out 0).trans rfl, (blk_cell BK201.out 0).trans rfl, ((HB.out.cell (World.block_lt_of_cell? w _ hw202_0)).trans hw202_0), ((HB.out.cell (World.block_lt_of_cell? w _ hw203_0)).trans hw203_0)⟩ (fun hHeld => ?_); refine with_tabW virgationref01_Equal.tab6 virgationref01_Equal.bits6 (fun HT_ HW_ => ?_)
                  generalize wr.drew = w17 at BK200 BK201 HB HR202_0 HR203_0 hx202_0 hx203_0 hHeld ⊢
                  refine pure_ (i := 0) (N := some 19) (v := ?_) (a' := ?_) #[true, false, false, false, false, false, false, false, false, false, false, false] rfl rfl (any_of HT_.out (by kernel_rfl)) (fun _ _ _ h => h) (Or.inl ⟨by rfl, ?_⟩) ?_ ?_
                  rotate_left
                  · intro w'
                    go_simp
                    with_reducible rfl
                  rotate_left
                  · simp only [Act.put, List.setIfInBounds_toArray, List.set_cons_zero, List.set_cons_succ, i64_w, i32_w]
                    rfl
                  refine pure_ (i := 2) (N := some 21) (v := ?_) (a' := ?_) #[true, false, true, false, false, false, false, false, false, false, false, false] rfl rfl (any_of HT_.out (by kernel_rfl)) (fun _ _ _ h => h) (Or.inl ⟨by rfl, ?_⟩) ?_ ?_
                  rotate_left
                  · intro w'
                    go_simp
                    with_reducible rfl
                  rotate_left
                  · simp only [Act.put, List.setIfInBounds_toArray, List.set_cons_zero, List.set_cons_succ, i64_w, i32_w]
                    rfl
                  refine pure_ (i := 5) (N := some 24) (v := ?_) (a' := ?_) #[true, false, true, false, false, true, false, false, false, false, false, false] rfl rfl (any_of HT_.out (by kernel_rfl)) (fun _ _ _ h => h) (Or.inl ⟨by rfl, ?_⟩) ?_ ?_
                  rotate_left
                  · intro w'
                    go_simp
                    with_reducible rfl
                  rotate_left
                  · simp only [Act.put, List.setIfInBounds_toArray, List.set_cons_zero, List.set_cons_succ, i64_w, i32_w]
                    rfl
                  refine pure_ (i := 7) (N := some 26) (v := ?_) (a' := ?_) #[true, false, true, false, false, true, false, true, false, false, false, false] rfl rfl (any_of HT_.out (by kernel_rfl)) (fun _ _ _ h => h) (Or.inl ⟨by rfl, ?_⟩) ?_ ?_
                  rotate_left
                  · intro w'
                    go_simp
                    with_reducible rfl
                  rotate_left
                  · simp only [Act.put, List.setIfInBounds_toArray, List.set_cons_zero, List.set_cons_succ, i64_w, i32_w]
                    rfl
                  refine take_ (i := 1) (N := some 20) (v := ?_) (a' := ?_) #[true, true, true, false, false, true, false, true, false, false, false, false] rfl rfl (take_ofW HT_.out HW_.out (by kernel_rfl)) (fun _ _ _ h => h) (Or.inl ⟨by rfl, ?_⟩) hHeld ?_ ?_
                  rotate_left
                  · rintro w' ⟨s0, s1, s2, s3⟩
                    go_simp
                    with_reducible rfl
                  rotate_left
                  · simp only [Act.put, List.setIfInBounds_toArray, List.set_cons_zero, List.set_cons_succ, i64_w, i32_w]
                    rfl
                  refine pure_ (i := 3) (N := some 22) (v := ?_) (a' := ?_) #[true, true, true, true, false, true, false, true, false, false, false, false] rfl rfl (any_of HT_.out (by kernel_rfl)) (fun _ _ _ h => h) (Or.inl ⟨by rfl, ?_⟩) ?_ ?_
                  rotate_left
                  · intro w'
                    go_simp
                    with_reducible rfl
                  rotate_left
                  · simp only [Act.put, List.setIfInBounds_toArray, List.set_cons_zero, List.set_cons_succ, i64_w, i32_w]
                    rfl
                  refine take_ (i := 4) (N := some 23) (v := ?_) (a' := ?_) #[true, true, true, true, true, true, false, true, false, false, false, false] rfl rfl (take_ofW HT_.out HW_.out (by kernel_rfl)) (fun _ _ _ h => h) (Or.inl ⟨by rfl, ?_⟩) hHeld ?_ ?_
                  rotate_left
                  · rintro w' ⟨s0, s1, s2, s3⟩
                    go_simp
                    with_reducible rfl
                  rotate_left
                  · simp only [Act.put, List.setIfInBounds_toArray, List.set_cons_zero, List.set_cons_succ, i64_w, i32_w]
                    rfl
                  refine take_ (i := 6) (N := some 25) (v := ?_) (a' := ?_) #[true, true, true, true, true, true, true, true, false, false, false, false] rfl rfl (take_ofW HT_.out HW_.out (by kernel_rfl)) (fun _ _ _ h => h) (Or.inl ⟨by rfl, ?_⟩) hHeld ?_ ?_
                  rotate_left
                  · rintro w' ⟨s0, s1, s2, s3⟩
                    go_simp
                    with_reducible rfl
                  rotate_left
                  · simp only [Act.put, List.setIfInBounds_toArray, List.set_cons_zero, List.set_cons_succ, i64_w, i32_w]
                    rfl
                  refine pure_ (i := 8) (N := some 27) (v := ?_) (a' := ?_) #[true, true, true, true, true, true, true, true, true, false, false, false] rfl rfl (any_of HT_.out (by kernel_rfl)) (fun _ _ _ h => h) (Or.inl ⟨by rfl, ?_⟩) ?_ ?_
                  rotate_left
                  · intro w'
                    go_simp
                    with_reducible rfl
                  rotate_left
                  · simp only [Act.put, List.setIfInBounds_toArray, List.set_cons_zero, List.set_cons_succ, i64_w, i32_w]
                    rfl
                  refine take_ (i := 9) (N := some 28) (v := ?_) (a' := ?_) #[true, true, true, true, true, true, true, true, true, true, false, false] rfl rfl (take_ofW HT_.out HW_.out (by kernel_rfl)) (fun _ _ _ h => h) (Or.inl ⟨by rfl, ?_⟩) hHeld ?_ ?_
                  rotate_left
                  · rintro w' ⟨s0, s1, s2, s3⟩
                    go_simp
                    with_reducible rfl
                  rotate_left
                  · simp only [Act.put, List.setIfInBounds_toArray, List.set_cons_zero, List.set_cons_succ, i64_w, i32_w]
                    rfl
                  refine one_ (i := 10) (N := some 29) #[true, true, true, true, true, true, true, true, true, true, true, false] rfl rfl (one_of HT_.out (by kernel_rfl)) (by decide) (fun K hK => ?_)
                  refine goes_ Tryz.func86 (by kernel_rfl) rfl #[.agg #[.slice A202_0 ((rd_T47 l0_0 x16_1).f0).length c202_0], .agg #[.slice A203_0 ((rd_T47 l1_0 x16_1).f0).length c203_0]] (by rfl) rfl rfl (by (try simp only [List.map_toArray, List.map_cons, List.map_nil]); first | done | rfl | (simp only [List.length_drop, List.length_take]; rfl)) ?_
                  with_reducible refine (ih k1 (by have := HK1.out; omega) _ _ ((rd_T47 l0_0 x16_1).f0) _ _ ((rd_T47 l1_0 x16_1).f0) false _ ?side1 ?side2 ?side3 ?side4 A13.out).mono ?_
                  (case side1 => repeat (first | exact (Kd.C_below HR202_0.out HB.out) | (with_reducible refine Kd.C_alloc ?_ _) | (with_reducible refine Kd.C_drewN ?_ _) | (with_reducible refine Kd.C_drew ?_)))
                  (case side2 => exact HC202_0.out)
                  (case side3 => repeat (first | exact (Kd.C_below HR203_0.out HB.out) | (with_reducible refine Kd.C_alloc ?_ _) | (with_reducible refine Kd.C_drewN ?_ _) | (with_reducible refine Kd.C_drew ?_)))
                  (case side4 => exact HC203_0.out)
                  rintro e w18 ⟨rfl, hb⟩
                  refine ⟨_, rfl, ?_⟩
                  have n0_ := Aside0.mk (blk_below (g := gb200) (o := .cells #[.slice (some ad202) l0_0.length c0_0] 47 (0, 0)) (by (with_reducible repeat (first | refine blk_drewN ?_ _ | refine blk_drew ?_ | refine blk_alloc ?_ _)); exact BK200.out) hb)
                  have n1_ := Aside0.mk (blk_below (g := gb201) (o := .cells #[.slice (some ad203) l1_0.length c1_0] 47 (0, 0)) (by (with_reducible repeat (first | refine blk_drewN ?_ _ | refine blk_drew ?_ | refine blk_alloc ?_ _)); exact BK201.out) hb)
                  have n2_ := Aside0.mk (below_step (by repeat (first | (with_reducible first | exact HB.out | apply below_alloc | apply pw_below_drewN | apply below_drew1 | refine below_set ?_ GE200.out | refine below_set ?_ GE201.out) | exact HB.out)) hb)
                  clear BK200
                  clear BK201
                  clear HB
                  have BK200 := n0_
                  have BK201 := n1_
                  have HB := n2_
                  clear n0_ n1_ n2_
                  (try clear hb)
                  (try clear hb2)
                  (try clear hk)
                  (try clear hi)
                  refine hK.out _ _ ⟨(blk_cell BK200.out 0).trans rfl, (blk_cell BK201.out 0).trans rfl, ((HB.out.cell (World.block_lt_of_cell? w _ hw202_0)).trans hw202_0), ((HB.out.cell (World.block_lt_of_cell? w _ hw203_0)).trans hw203_0)⟩ (fun hHeld => ?_)
                  clear hK K
                  refine norm_ (a' := ?_) ?_ ?_
                  rotate_left
                  · show Act.put _ (some 29) _ = _
                    simp only [Act.put, List.setIfInBounds_toArray, List.set_cons_zero, List.set_cons_succ, i64_w, i32_w]
                    rfl
                  refine pure_ (i := 11) (N := some 30) (v := ?_) (a' := ?_) #[true, true, true, true, true, true, true, true, true, true, true, true] rfl rfl (any_of HT_.out (by kernel_rfl)) (fun _ _ _ h => h) (Or.inl ⟨by rfl, ?_⟩) ?_ ?_
                  rotate_left
                  · intro w'
                    go_simp
                    with_reducible rfl
                  rotate_left
                  · simp only [Act.put, List.setIfInBounds_toArray, List.set_cons_zero, List.set_cons_succ, i64_w, i32_w]
                    rfl
                  refine done_ (done_of HT_.out (by kernel_rfl)) ?_
                  try go_wp2
                  go_ret
                  exact ⟨by first | rfl | (simp [errW_none, errW_some] <;> rfl) | (simp [*, errW_none, errW_some] <;> rfl), by repeat (first | (with_reducible first | exact HB.out | apply below_alloc | apply pw_below_drewN | apply below_drew1 | refine below_set ?_ GE200.out | refine below_set ?_ GE201.out) | exact HB.out)⟩
              · rw [if_neg c12] at H
                exact absurd H (by simp)
            · rw [if_neg c11] at H
              exact absurd H (by simp)
          · rw [if_neg c10] at H
            exact absurd H (by simp)
        · rw [if_neg c9] at H
          have c9b0 : decide (x16_1 < (l0_0.length : Int)) = false := decide_eq_false c9
          clear c9
          obtain rfl := Option.some.inj H
          go_wp2
          go_ret
          exact ⟨by first | rfl | (simp [errW_none, errW_some] <;> rfl) | (simp [*, errW_none, errW_some] <;> rfl), by repeat (first | (with_reducible first | exact HB.out | apply below_alloc | apply pw_below_drewN | apply below_drew1 | refine below_set ?_ GE200.out | refine below_set ?_ GE201.out) | exact HB.out)⟩
  · rw [if_neg c3] at H
    have c3b0 : ((l0_0.length : Int) == (l1_0.length : Int)) = false := beq_eq_false_iff_ne.mpr c3
    have c3b1 : ((l0_0.length : Int) != (l1_0.length : Int)) = true := bne_iff_ne.mpr c3
    have c3b2 : (l0_0.length == l1_0.length) = false := by first | simpa using c3 | (simp at c3 ⊢; omega)
    obtain rfl := Option.some.inj H
    go_enter Tryz.func86, Tryz.ntmps86
    go_wp2_with (first | ((with_reducible refine gate_dst (N := 2) rfl ?_); refine box_event ?hg (N := 2) ?hd (cs := #[.slice A0_0 l0_0.length c0_0]) (t := 47) ?hr ?_; (case hd => rfl); (case hg => rfl); (case hr => first | (go_simp; done) | (go_simp; rfl)); intro gb200 hg w19 hbox hb; have n0_ := Aside0.mk (below_step (by repeat (first | (with_reducible first | exact HB.out | apply below_alloc | apply pw_below_drewN | apply below_drew1) | exact HB.out)) hb); have n1_ := Aside0.mk (hbox); have n2_ := Aside0.mk ((by rw [hg]; exact (below_size (by repeat (first | (with_reducible first | exact HB.out | apply below_alloc | apply pw_below_drewN | apply below_drew1) | exact HB.out))) : w.heap.size ≤ gb200)); have n3_ := Aside0.mk ((by rw [hg]; exact (below_size (by repeat (first | (with_reducible first | exact HB.out | apply below_alloc | apply pw_below_drewN | apply below_drew1) | exact HB.out))) : w.heap.size ≤ gb200)); clear HB; have HB := n0_; have BK200 := n1_; have GW200 := n2_; have GE200 := n3_; clear n0_ n1_ n2_ n3_; clear hb hbox hg) | ((with_reducible refine gate_dst (N := 3) rfl ?_); refine box_event ?hg (N := 3) ?hd (cs := #[.slice A1_0 l1_0.length c1_0]) (t := 47) ?hr ?_; (case hd => rfl); (case hg => rfl); (case hr => first | (go_simp; done) | (go_simp; rfl)); intro gb201 hg w20 hbox hb; have n0_ := Aside0.mk (blk_below (g := gb200) (o := .cells #[.slice A0_0 l0_0.length c0_0] 47 (0, 0)) (by (with_reducible repeat (first | refine blk_drewN ?_ _ | refine blk_drew ?_ | refine blk_alloc ?_ _)); exact BK200.out) hb); have n1_ := Aside0.mk (below_step (by repeat (first | (with_reducible first | exact HB.out | apply below_alloc | apply pw_below_drewN | apply below_drew1 | refine below_set ?_ GE200.out) | exact HB.out)) hb); have n2_ := Aside0.mk (hbox); have n3_ := Aside0.mk ((by rw [hg]; exact (below_size (by repeat (first | (with_reducible first | exact HB.out | apply below_alloc | apply pw_below_drewN | apply below_drew1 | refine below_set ?_ GE200.out) | exact HB.out))) : w.heap.size ≤ gb201)); have n4_ := Aside0.mk ((by rw [hg]; exact (below_size (by repeat (first | (with_reducible first | exact HB.out | apply below_alloc | apply pw_below_drewN | apply below_drew1 | refine below_set ?_ GE200.out) | exact HB.out))) : w.heap.size ≤ gb201)); have n5_ := Aside0.mk ((by rw [hg]; exact Nat.ne_of_lt (blk_lt (g := gb200) (o := .cells #[.slice A0_0 l0_0.length c0_0] 47 (0, 0)) (by (with_reducible repeat (first | refine blk_drewN ?_ _ | refine blk_drew ?_ | refine blk_alloc ?_ _)); exact BK200.out)) : gb200 ≠ gb201)); have n6_ := Aside0.mk ((by rw [hg]; exact Nat.ne_of_gt (blk_lt (g := gb200) (o := .cells #[.slice A0_0 l0_0.length c0_0] 47 (0, 0)) (by (with_reducible repeat (first | refine blk_drewN ?_ _ | refine blk_drew ?_ | refine blk_alloc ?_ _)); exact BK200.out)) : gb201 ≠ gb200)); clear BK200; clear HB; have BK200 := n0_; have HB := n1_; have BK201 := n2_; have GW201 := n3_; have GE201 := n4_; have NB200_201 := n5_; have NB201_200 := n6_; clear n0_ n1_ n2_ n3_ n4_ n5_ n6_; clear hb hbox hg; have hnb21 := NB200_201.out; have hnc21 := NB201_200.out; have hcz22_0 : w20.cell? ⟨gb200, 0, none⟩ = some (.slice A0_0 l0_0.length c0_0) := (blk_cell BK200.out 0).trans rfl; have hfz22_0 := blk_frozen BK200.out 0; have hcz23_0 : w20.cell? ⟨gb201, 0, none⟩ = some (.slice A1_0 l1_0.length c1_0) := (blk_cell BK201.out 0).trans rfl; have hfz23_0 := blk_frozen BK201.out 0))
    go_ret
    exact ⟨by first | rfl | (simp [errW_none, errW_some] <;> rfl) | (simp [*, errW_none, errW_some] <;> rfl), by repeat (first | (with_reducible first | exact HB.out | apply below_alloc | apply pw_below_drewN | apply below_drew1 | refine below_set ?_ GE200.out | refine below_set ?_ GE201.out) | exact HB.out)⟩
end Go.Proofs.YthflpbgloeimfaaGreatDoor.Q
namespace Go.Proofs.YthflpbgloeimfaaGreatDoor.Q
open Go.RowKit Go.Proofs.YthflpbgloeimfaaGreatDoorW.PrintWords Go.Proofs.YthflpbgloeimfaaGreatDoorW.PrintLast Go.Proofs.YthflpbgloeimfaaGreatDoorW.PrintMore
attribute [local go_sem] max2_int min2_int max_two min_two max_three min_three max_four min_four
set_option linter.unusedVariables false
set_option linter.unusedSimpArgs false
def virgationlaw03_ints.l0 : Nat → List Int → List Int → Int → Int → Option (Bool)
  | 0, _, _, _, _ => none
  | k + 1, x0, x1, x12, x13 => if x13 < x12 then (if 0 ≤ x13 then (if x13 < (x0.length : Int) then (if x13 < (x1.length : Int) then (if (rd x0 x13) = (rd x1 x13) then (virgationlaw03_ints.l0 k x0 x1 x12 (wrap64 (x13 + 1))) else (some false)) else (none)) else (none)) else (none)) else (some true)
def virgationlaw03_ints.f (k : Nat) (l0 : List Int) (l1 : List Int) : Option (Bool) := if (l0.length : Int) = (l1.length : Int) then (virgationlaw03_ints.l0 k l0 l1 (l0.length : Int) 0) else (some false)
set_option maxHeartbeats 8000000 in
set_option maxRecDepth 100000 in
theorem virgationlaw03_ints.calls (k : Nat) (A0 : Option Addr) (c0 : Nat) (l0 : List Int) (A1 : Option Addr) (c1 : Nat) (l1 : List Int) (r : Bool) (w : World) (hr0 : Kd.C (Kd.int .i64) w A0 l0.length l0) (hc0 : l0.length ≤ c0) (hr1 : Kd.C (Kd.int .i64) w A1 l1.length l1) (hc1 : l1.length ≤ c1) (h : virgationlaw03_ints.f k l0 l1 = some r) :
    Calls Tryz.prog 28 #[.slice A0 l0.length c0, .slice A1 l1.length c1] w fun e w' => e = .returned (.bool r) ∧ Drawn0 w w' := by
  have HR0 := Aside0.mk hr0
  have HC0 := Aside0.mk hc0
  clear hr0 hc0
  have HR1 := Aside0.mk hr1
  have HC1 := Aside0.mk hc1
  clear hr1 hc1
  have H : (if (l0.length : Int) = (l1.length : Int) then (virgationlaw03_ints.l0 k l0 l1 (l0.length : Int) 0) else (some false)) = some r := h
  clear h
  by_cases c3 : (l0.length : Int) = (l1.length : Int)
  · rw [if_pos c3] at H
    have c3b0 : ((l0.length : Int) == (l1.length : Int)) = true := beq_iff_eq.mpr c3
    have c3b1 : ((l0.length : Int) != (l1.length : Int)) = false := bne_eq_false_iff_eq.mpr c3
    have c3b2 : (l0.length == l1.length) = true := by first | simpa using c3 | (simp at c3 ⊢; omega)
    clear c3
    have H' := Aside0.mk H
    clear H
    go_enter Tryz.func28, Tryz.ntmps28
    go_wp2
    repeat (go_quiet (fail); try go_wp2)
    go_loopg [13] k (fun kq v13 w' => ∃ (x13_1 : Int), v13 = .int .i64 x13_1 ∧ Aside0 (virgationlaw03_ints.l0 kq l0 l1 (l0.length : Int) x13_1 = some r) ∧ Aside0 (kq ≤ k) ∧ Drawn0 w w')
    case atStart => exact ⟨(0), (by first | rfl | (simp; done) | (simp [*]; done)), H', ⟨Nat.le_refl _⟩, by repeat (first | exact Drawn0.refl _ | apply Drawn0.step)⟩
    case round =>
      clear H'
      try clear c1
      try clear c2
      try clear p2
      try clear c3
      try clear c3b0
      try clear c3b1
      try clear c3b2
      obtain ⟨x13_1, rfl, HA, HK1, ⟨m1, rfl⟩⟩ := hrel
      cases gk with
      | zero => exact absurd HA.out (by simp [virgationlaw03_ints.l0])
      | succ k1 =>
        have H := HA.out
        clear HA
        simp only [virgationlaw03_ints.l0] at H
        by_cases c4 : x13_1 < (l0.length : Int)
        · rw [if_pos c4] at H
          have c4b0 : decide (x13_1 < (l0.length : Int)) = true := decide_eq_true c4
          clear c4
          by_cases c5 : 0 ≤ x13_1
          · rw [if_pos c5] at H
            have c5b0 : decide (0 ≤ x13_1) = true := decide_eq_true c5
            clear c5
            by_cases c6 : x13_1 < (l0.length : Int)
            · rw [if_pos c6] at H
              have c6b0 : decide (x13_1 < (l0.length : Int)) = true := decide_eq_true c6
              clear c6
              by_cases c7 : x13_1 < (l1.length : Int)
              · rw [if_pos c7] at H
                have c7b0 : decide (x13_1 < (l1.length : Int)) = true := decide_eq_true c7
                clear c7
                by_cases c8 : (rd l0 x13_1) = (rd l1 x13_1)
                · rw [if_pos c8] at H
                  have c8b0 : ((rd l0 x13_1) == (rd l1 x13_1)) = true := beq_iff_eq.mpr c8
                  have c8b1 : ((rd l0 x13_1) != (rd l1 x13_1)) = false := bne_eq_false_iff_eq.mpr c8
                  clear c8
                  have H' := Aside0.mk H
                  clear H
                  have p209 : 0 ≤ (x13_1 : Int) := of_decide_eq_true (by first | (with_reducible assumption) | assumption)
                  have q209 : x13_1 < (l0.length : Int) := of_decide_eq_true (by first | (with_reducible assumption) | assumption)
                  obtain ⟨ad209, e209, hx209_0⟩ := Kd.at_int HR0.out x13_1 p209 q209
                  cases e209
                  replace p209 := eq_true p209
                  replace q209 := eq_true q209
                  have p210 : 0 ≤ (x13_1 : Int) := of_decide_eq_true (by first | (with_reducible assumption) | assumption)
                  have q210 : x13_1 < (l1.length : Int) := of_decide_eq_true (by first | (with_reducible assumption) | assumption)
                  obtain ⟨ad210, e210, hx210_0⟩ := Kd.at_int HR1.out x13_1 p210 q210
                  cases e210
                  replace p210 := eq_true p210
                  replace q210 := eq_true q210
                  go_wp2
                  repeat (go_quiet (fail); try go_wp2)
                  go_roundg k1
                  case measure => have := HK1.out; omega
                  case rel => exact ⟨(wrap64 (x13_1 + 1)), (by first | rfl | (simp; done) | (simp [*]; done)), H', ⟨by have := HK1.out; omega⟩, by repeat (first | exact Drawn0.refl _ | apply Drawn0.step)⟩
                · rw [if_neg c8] at H
                  have c8b0 : ((rd l0 x13_1) == (rd l1 x13_1)) = false := beq_eq_false_iff_ne.mpr c8
                  have c8b1 : ((rd l0 x13_1) != (rd l1 x13_1)) = true := bne_iff_ne.mpr c8
                  obtain rfl := Option.some.inj H
                  have p209 : 0 ≤ (x13_1 : Int) := of_decide_eq_true (by first | (with_reducible assumption) | assumption)
                  have q209 : x13_1 < (l0.length : Int) := of_decide_eq_true (by first | (with_reducible assumption) | assumption)
                  obtain ⟨ad209, e209, hx209_0⟩ := Kd.at_int HR0.out x13_1 p209 q209
                  cases e209
                  replace p209 := eq_true p209
                  replace q209 := eq_true q209
                  have p210 : 0 ≤ (x13_1 : Int) := of_decide_eq_true (by first | (with_reducible assumption) | assumption)
                  have q210 : x13_1 < (l1.length : Int) := of_decide_eq_true (by first | (with_reducible assumption) | assumption)
                  obtain ⟨ad210, e210, hx210_0⟩ := Kd.at_int HR1.out x13_1 p210 q210
                  cases e210
                  replace p210 := eq_true p210
                  replace q210 := eq_true q210
                  go_wp2
                  repeat (go_quiet (fail); try go_wp2)
                  go_ret
                  exact ⟨by first | rfl | (simp; done) | (simp [*]; done), by repeat (first | exact Drawn0.refl _ | apply Drawn0.step)⟩
              · rw [if_neg c7] at H
                exact absurd H (by simp)
            · rw [if_neg c6] at H
              exact absurd H (by simp)
          · rw [if_neg c5] at H
            exact absurd H (by simp)
        · rw [if_neg c4] at H
          have c4b0 : decide (x13_1 < (l0.length : Int)) = false := decide_eq_false c4
          clear c4
          obtain rfl := Option.some.inj H
          go_wp2
          repeat (go_quiet (fail); try go_wp2)
          go_ret
          exact ⟨by first | rfl | (simp; done) | (simp [*]; done), by repeat (first | exact Drawn0.refl _ | apply Drawn0.step)⟩
  · rw [if_neg c3] at H
    have c3b0 : ((l0.length : Int) == (l1.length : Int)) = false := beq_eq_false_iff_ne.mpr c3
    have c3b1 : ((l0.length : Int) != (l1.length : Int)) = true := bne_iff_ne.mpr c3
    have c3b2 : (l0.length == l1.length) = false := by first | simpa using c3 | (simp at c3 ⊢; omega)
    obtain rfl := Option.some.inj H
    go_enter Tryz.func28, Tryz.ntmps28
    go_wp2
    repeat (go_quiet (fail); try go_wp2)
    go_ret
    exact ⟨by first | rfl | (simp; done) | (simp [*]; done), by repeat (first | exact Drawn0.refl _ | apply Drawn0.step)⟩
end Go.Proofs.YthflpbgloeimfaaGreatDoor.Q
namespace Go.Proofs.YthflpbgloeimfaaGreatDoor.Q
open Go.RowKit Go.Proofs.YthflpbgloeimfaaGreatDoorW.PrintWords Go.Proofs.YthflpbgloeimfaaGreatDoorW.PrintLast Go.Proofs.YthflpbgloeimfaaGreatDoorW.PrintMore
attribute [local go_sem] max2_int min2_int max_two min_two max_three min_three max_four min_four
set_option linter.unusedVariables false
set_option linter.unusedSimpArgs false
mutual
def sorts_same.l0 : Nat → Int → Int → List (S47) → List (S47) → Option (Bool)
  | 0, _, _, _, _ => none
  | k + 1, x15, x16, x226000, x227000 => if x16 < x15 then (if 0 ≤ x16 then (if x16 < (x226000.length : Int) then (if x16 < (x227000.length : Int) then ((sorts_same.f k ((rd_T47 x226000 x16).f0) ((rd_T47 x227000 x16).f0)).bind fun t229 => (if t229 = true then (sorts_same.l0 k x15 (wrap64 (x16 + 1)) x226000 x227000) else (some false))) else (none)) else (none)) else (none)) else (some true)
def sorts_same.f : Nat → List (S47) → List (S47) → Option (Bool)
  | 0, _, _ => none
  | k + 1, l0_0, l1_0 => if (l0_0.length : Int) = (l1_0.length : Int) then (sorts_same.l0 k (l0_0.length : Int) 0 l0_0 l1_0) else (some false)
end
def sorts_same.T6 : Bool × List (List Nat × List Nat) := (true, [([], []), ([0], [0]), ([], []), ([1, 2], [1, 2]), ([3], [3]), ([], []), ([5], [5]), ([], []), ([6, 7], [6, 7]), ([8], [8]), ([4, 9], [4, 9]), ([10], [10])])
def sorts_same.B6 : List Nat := [0, 1, 0, 7, 15, 0, 32, 0, 224, 480, 1023, 2047]
theorem sorts_same.tab6 : rtab .any (opsOf Tryz.f112 6) = sorts_same.T6 := by kernel_rfl
theorem sorts_same.bits6 : waitsOk sorts_same.T6.2 sorts_same.B6 = true := by kernel_rfl
set_option maxHeartbeats 8000000 in
set_option maxRecDepth 100000 in
theorem sorts_same.calls (k : Nat) : ∀ (A0_0 : Option Addr) (c0_0 : Nat) (l0_0 : List (S47)) (A1_0 : Option Addr) (c1_0 : Nat) (l1_0 : List (S47)) (r : Bool) (w : World) (hr0_0 : Kd.C k47 w A0_0 l0_0.length l0_0) (hc0_0 : l0_0.length ≤ c0_0) (hr1_0 : Kd.C k47 w A1_0 l1_0.length l1_0) (hc1_0 : l1_0.length ≤ c1_0) (h : sorts_same.f k l0_0 l1_0 = some r),
    Calls Tryz.prog 112 #[.agg #[.slice A0_0 l0_0.length c0_0], .agg #[.slice A1_0 l1_0.length c1_0]] w fun e w' => e = .returned (.bool r) ∧ Below w.heap.size w w' := by
  induction k using Nat.strongRecOn with
  | _ k ih =>
  intro A0_0 c0_0 l0_0 A1_0 c1_0 l1_0 r w hr0_0 hc0_0 hr1_0 hc1_0 h
  cases k with
  | zero => exact absurd h (by simp [sorts_same.f])
  | succ k =>
  simp only [sorts_same.f] at h
  have hu47 := Tryz.underlying47
  have HR0_0 := Aside0.mk hr0_0
  have HC0_0 := Aside0.mk hc0_0
  clear hr0_0 hc0_0
  have HR1_0 := Aside0.mk hr1_0
  have HC1_0 := Aside0.mk hc1_0
  clear hr1_0 hc1_0
  have HB := Aside0.mk (Below.refl w.heap.size w)
  have H : (if (l0_0.length : Int) = (l1_0.length : Int) then (sorts_same.l0 k (l0_0.length : Int) 0 l0_0 l1_0) else (some false)) = some r := h
  clear h
  by_cases c3 : (l0_0.length : Int) = (l1_0.length : Int)
  · rw [if_pos c3] at H
    have c3b0 : ((l0_0.length : Int) == (l1_0.length : Int)) = true := beq_iff_eq.mpr c3
    have c3b1 : ((l0_0.length : Int) != (l1_0.length : Int)) = false := bne_eq_false_iff_eq.mpr c3
    have c3b2 : (l0_0.length == l1_0.length) = true := by first | simpa using c3 | (simp at c3 ⊢; omega)
    clear c3
    have H' := Aside0.mk H
    clear H
    go_enter Tryz.func112, Tryz.ntmps112
    go_wp2_with (first | ((with_reducible refine gate_dst (N := 2) rfl ?_); refine box_event ?hg (N := 2) ?hd (cs := #[.slice A0_0 l0_0.length c0_0]) (t := 47) ?hr ?_; (case hd => rfl); (case hg => rfl); (case hr => first | (go_simp; done) | (go_simp; rfl)); intro gb225 hg w4 hbox hb; have n0_ := Aside0.mk (below_step (by repeat (first | (with_reducible first | exact HB.out | apply below_alloc | apply pw_below_drewN | apply below_drew1) | exact HB.out)) hb); have n1_ := Aside0.mk (hbox); have n2_ := Aside0.mk ((by rw [hg]; exact (below_size (by repeat (first | (with_reducible first | exact HB.out | apply below_alloc | apply pw_below_drewN | apply below_drew1) | exact HB.out))) : w.heap.size ≤ gb225)); have n3_ := Aside0.mk ((by rw [hg]; exact (below_size (by repeat (first | (with_reducible first | exact HB.out | apply below_alloc | apply pw_below_drewN | apply below_drew1) | exact HB.out))) : w.heap.size ≤ gb225)); clear HB; have HB := n0_; have BK225 := n1_; have GW225 := n2_; have GE225 := n3_; clear n0_ n1_ n2_ n3_; clear hb hbox hg) | ((with_reducible refine gate_dst (N := 3) rfl ?_); refine box_event ?hg (N := 3) ?hd (cs := #[.slice A1_0 l1_0.length c1_0]) (t := 47) ?hr ?_; (case hd => rfl); (case hg => rfl); (case hr => first | (go_simp; done) | (go_simp; rfl)); intro gb226 hg w5 hbox hb; have n0_ := Aside0.mk (blk_below (g := gb225) (o := .cells #[.slice A0_0 l0_0.length c0_0] 47 (0, 0)) (by (with_reducible repeat (first | refine blk_drewN ?_ _ | refine blk_drew ?_ | refine blk_alloc ?_ _)); exact BK225.out) hb); have n1_ := Aside0.mk (below_step (by repeat (first | (with_reducible first | exact HB.out | apply below_alloc | apply pw_below_drewN | apply below_drew1 | refine below_set ?_ GE225.out) | exact HB.out)) hb); have n2_ := Aside0.mk (hbox); have n3_ := Aside0.mk ((by rw [hg]; exact (below_size (by repeat (first | (with_reducible first | exact HB.out | apply below_alloc | apply pw_below_drewN | apply below_drew1 | refine below_set ?_ GE225.out) | exact HB.out))) : w.heap.size ≤ gb226)); have n4_ := Aside0.mk ((by rw [hg]; exact (below_size (by repeat (first | (with_reducible first | exact HB.out | apply below_alloc | apply pw_below_drewN | apply below_drew1 | refine below_set ?_ GE225.out) | exact HB.out))) : w.heap.size ≤ gb226)); have n5_ := Aside0.mk ((by rw [hg]; exact Nat.ne_of_lt (blk_lt (g := gb225) (o := .cells #[.slice A0_0 l0_0.length c0_0] 47 (0, 0)) (by (with_reducible repeat (first | refine blk_drewN ?_ _ | refine blk_drew ?_ | refine blk_alloc ?_ _)); exact BK225.out)) : gb225 ≠ gb226)); have n6_ := Aside0.mk ((by rw [hg]; exact Nat.ne_of_gt (blk_lt (g := gb225) (o := .cells #[.slice A0_0 l0_0.length c0_0] 47 (0, 0)) (by (with_reducible repeat (first | refine blk_drewN ?_ _ | refine blk_drew ?_ | refine blk_alloc ?_ _)); exact BK225.out)) : gb226 ≠ gb225)); clear BK225; clear HB; have BK225 := n0_; have HB := n1_; have BK226 := n2_; have GW226 := n3_; have GE226 := n4_; have NB225_226 := n5_; have NB226_225 := n6_; clear n0_ n1_ n2_ n3_ n4_ n5_ n6_; clear hb hbox hg; have hnb6 := NB225_226.out; have hnc6 := NB226_225.out; have hcz7_0 : w5.cell? ⟨gb225, 0, none⟩ = some (.slice A0_0 l0_0.length c0_0) := (blk_cell BK225.out 0).trans rfl; have hfz7_0 := blk_frozen BK225.out 0; have hcz8_0 : w5.cell? ⟨gb226, 0, none⟩ = some (.slice A1_0 l1_0.length c1_0) := (blk_cell BK226.out 0).trans rfl; have hfz8_0 := blk_frozen BK226.out 0))
    go_loopg [16] k (fun kq v16 w' => ∃ (x16_1 : Int), v16 = .int .i64 x16_1 ∧ Aside0 (sorts_same.l0 kq (l0_0.length : Int) x16_1 l0_0 l1_0 = some r) ∧ Aside0 (kq ≤ k) ∧ Aside0 (w'.heap[gb225]? = some (.cells #[(.slice A0_0 l0_0.length c0_0)] 47 (0, 0))) ∧ Aside0 (w'.heap[gb226]? = some (.cells #[(.slice A1_0 l1_0.length c1_0)] 47 (0, 0))) ∧ Aside0 (Below w.heap.size w w'))
    case atStart => exact ⟨(0), (by first | rfl | (simp; done) | (simp [*]; done)), H', ⟨Nat.le_refl _⟩, ⟨by (with_reducible repeat (first | refine blk_drewN ?_ _ | refine blk_drew ?_ | refine blk_alloc ?_ _)); exact BK225.out⟩, ⟨by (with_reducible repeat (first | refine blk_drewN ?_ _ | refine blk_drew ?_ | refine blk_alloc ?_ _)); exact BK226.out⟩, ⟨by repeat (first | (with_reducible first | exact HB.out | apply below_alloc | apply pw_below_drewN | apply below_drew1 | refine below_set ?_ GE225.out | refine below_set ?_ GE226.out) | exact HB.out)⟩⟩
    case round =>
      clear H'
      try clear c1
      try clear p2
      try clear c3
      try clear c3b0
      try clear c3b1
      try clear c3b2
      try clear c6
      try clear hcz7_0
      try clear hcz8_0
      try clear hfz7_0
      try clear hfz8_0
      obtain ⟨x16_1, rfl, HA, HK1, BK225, BK226, HB⟩ := hrel
      cases gk with
      | zero => exact absurd HA.out (by simp [sorts_same.l0])
      | succ k1 =>
        have H := HA.out
        clear HA
        simp only [sorts_same.l0] at H
        by_cases c9 : x16_1 < (l0_0.length : Int)
        · rw [if_pos c9] at H
          have c9b0 : decide (x16_1 < (l0_0.length : Int)) = true := decide_eq_true c9
          clear c9
          by_cases c10 : 0 ≤ x16_1
          · rw [if_pos c10] at H
            have c10b0 : decide (0 ≤ x16_1) = true := decide_eq_true c10
            clear c10
            by_cases c11 : x16_1 < (l0_0.length : Int)
            · rw [if_pos c11] at H
              have c11b0 : decide (x16_1 < (l0_0.length : Int)) = true := decide_eq_true c11
              clear c11
              by_cases c12 : x16_1 < (l1_0.length : Int)
              · rw [if_pos c12] at H
                have c12b0 : decide (x16_1 < (l1_0.length : Int)) = true := decide_eq_true c12
                clear c12
                replace H := Option.bind_eq_some_iff.mp H
                obtain ⟨t229, A130, H⟩ := H
                replace H : (if t229 = true then (sorts_same.l0 k1 (l0_0.length : Int) (wrap64 (x16_1 + 1)) l0_0 l1_0) else (some false)) = some r := H
                have A13 := Aside0.mk A130
                clear A130
                by_cases c14 : t229 = true
                · subst c14
                  have H1 : (sorts_same.l0 k1 (l0_0.length : Int) (wrap64 (x16_1 + 1)) l0_0 l1_0) = some r := by rw [if_pos rfl] at H; exact H
                  clear H
                  have H := H1
                  clear H1
                  have H' := Aside0.mk H
                  clear H
                  try go_wp2
                  have n0_ := Aside0.mk (blk_drew BK225.out)
                  have n1_ := Aside0.mk (blk_drew BK226.out)
                  have n2_ := Aside0.mk (below_drew1 HB.out)
                  clear BK225
                  clear BK226
                  clear HB
                  have BK225 := n0_
                  have BK226 := n1_
                  have HB := n2_
                  clear n0_ n1_ n2_
                  have p227 : 0 ≤ (x16_1 : Int) := of_decide_eq_true (by first | (with_reducible assumption) | assumption)
                  have q227 : x16_1 < (l0_0.length : Int) := of_decide_eq_true (by first | (with_reducible assumption) | assumption)
                  obtain ⟨ad227, A227_0, c227_0, e227, hx227_0, hl227_0, hi227_0⟩ := at_T47 HR0_0.out x16_1 p227 q227
                  have hw227_0 := hx227_0
                  cases e227
                  replace hx227_0 := (HB.out.cell (World.block_lt_of_cell? w _ hx227_0)).trans hx227_0
                  have HR227_0 := Aside0.mk hi227_0
                  have HC227_0 := Aside0.mk hl227_0
                  clear hi227_0 hl227_0
                  replace p227 := eq_true p227
                  replace q227 := eq_true q227
                  have p228 : 0 ≤ (x16_1 : Int) := of_decide_eq_true (by first | (with_reducible assumption) | assumption)
                  have q228 : x16_1 < (l1_0.length : Int) := of_decide_eq_true (by first | (with_reducible assumption) | assumption)
                  obtain ⟨ad228, A228_0, c228_0, e228, hx228_0, hl228_0, hi228_0⟩ := at_T47 HR1_0.out x16_1 p228 q228
                  have hw228_0 := hx228_0
                  cases e228
                  replace hx228_0 := (HB.out.cell (World.block_lt_of_cell? w _ hx228_0)).trans hx228_0
                  have HR228_0 := Aside0.mk hi228_0
                  have HC228_0 := Aside0.mk hl228_0
                  clear hi228_0 hl228_0
                  replace p228 := eq_true p228
                  replace q228 := eq_true q228
                  refine start_ (n := 12) (S := fun w' => w'.cell? ⟨gb225, 0, none⟩ = some (.slice (some ad227) l0_0.length c0_0) ∧ w'.cell? ⟨gb226, 0, none⟩ = some (.slice (some ad228) l1_0.length c1_0) ∧ w'.cell? (ad227.add (x16_1).toNat) = some (.slice A227_0 ((rd_T47 l0_0 x16_1).f0).length c227_0) ∧ w'.cell? (ad228.add (x16_1).toNat) = some (.slice A228_0 ((rd_T47 l1_0 x16_1).f0).length c228_0)) (ds := []) #[false, false, false, false, false, false, false, false, false, false, false, false] (by kernel_rfl) rfl rfl ⟨(blk_cell BK225.out 0).trans rfl, (blk_cell BK226.out 0).trans rfl, ((HB.out.cell (World.block_lt_of_cell? w _ hw227_0)).trans hw227_0), ((HB.out.cell (World.block_lt_of_cell? w _ hw228_0)).trans hw228_0)⟩ (fun hHeld => ?_); refine with_tabW sorts_same.tab6 sorts_same.bits6 (fun HT_ HW_ => ?_)
                  generalize wr.drew = w15 at BK225 BK226 HB HR227_0 HR228_0 hx227_0 hx228_0 hHeld ⊢
                  refine pure_ (i := 0) (N := some 19) (v := ?_) (a' := ?_) #[true, false, false, false, false, false, false, false, false, false, false, false] rfl rfl (any_of HT_.out (by kernel_rfl)) (fun _ _ _ h => h) (Or.inl ⟨by rfl, ?_⟩) ?_ ?_
                  rotate_left
                  · intro w'
                    go_simp
                    with_reducible rfl
                  rotate_left
                  · simp only [Act.put, List.setIfInBounds_toArray, List.set_cons_zero, List.set_cons_succ, i64_w, i32_w]
                    rfl
                  refine pure_ (i := 2) (N := some 21) (v := ?_) (a' := ?_) #[true, false, true, false, false, false, false, false, false, false, false, false] rfl rfl (any_of HT_.out (by kernel_rfl)) (fun _ _ _ h => h) (Or.inl ⟨by rfl, ?_⟩) ?_ ?_
                  rotate_left
                  · intro w'
                    go_simp
                    with_reducible rfl
                  rotate_left
                  · simp only [Act.put, List.setIfInBounds_toArray, List.set_cons_zero, List.set_cons_succ, i64_w, i32_w]
                    rfl
                  refine pure_ (i := 5) (N := some 24) (v := ?_) (a' := ?_) #[true, false, true, false, false, true, false, false, false, false, false, false] rfl rfl (any_of HT_.out (by kernel_rfl)) (fun _ _ _ h => h) (Or.inl ⟨by rfl, ?_⟩) ?_ ?_
                  rotate_left
                  · intro w'
                    go_simp
                    with_reducible rfl
                  rotate_left
                  · simp only [Act.put, List.setIfInBounds_toArray, List.set_cons_zero, List.set_cons_succ, i64_w, i32_w]
                    rfl
                  refine pure_ (i := 7) (N := some 26) (v := ?_) (a' := ?_) #[true, false, true, false, false, true, false, true, false, false, false, false] rfl rfl (any_of HT_.out (by kernel_rfl)) (fun _ _ _ h => h) (Or.inl ⟨by rfl, ?_⟩) ?_ ?_
                  rotate_left
                  · intro w'
                    go_simp
                    with_reducible rfl
                  rotate_left
                  · simp only [Act.put, List.setIfInBounds_toArray, List.set_cons_zero, List.set_cons_succ, i64_w, i32_w]
                    rfl
                  refine take_ (i := 1) (N := some 20) (v := ?_) (a' := ?_) #[true, true, true, false, false, true, false, true, false, false, false, false] rfl rfl (take_ofW HT_.out HW_.out (by kernel_rfl)) (fun _ _ _ h => h) (Or.inl ⟨by rfl, ?_⟩) hHeld ?_ ?_
                  rotate_left
                  · rintro w' ⟨s0, s1, s2, s3⟩
                    go_simp
                    with_reducible rfl
                  rotate_left
                  · simp only [Act.put, List.setIfInBounds_toArray, List.set_cons_zero, List.set_cons_succ, i64_w, i32_w]
                    rfl
                  refine pure_ (i := 3) (N := some 22) (v := ?_) (a' := ?_) #[true, true, true, true, false, true, false, true, false, false, false, false] rfl rfl (any_of HT_.out (by kernel_rfl)) (fun _ _ _ h => h) (Or.inl ⟨by rfl, ?_⟩) ?_ ?_
                  rotate_left
                  · intro w'
                    go_simp
                    with_reducible rfl
                  rotate_left
                  · simp only [Act.put, List.setIfInBounds_toArray, List.set_cons_zero, List.set_cons_succ, i64_w, i32_w]
                    rfl
                  refine take_ (i := 4) (N := some 23) (v := ?_) (a' := ?_) #[true, true, true, true, true, true, false, true, false, false, false, false] rfl rfl (take_ofW HT_.out HW_.out (by kernel_rfl)) (fun _ _ _ h => h) (Or.inl ⟨by rfl, ?_⟩) hHeld ?_ ?_
                  rotate_left
                  · rintro w' ⟨s0, s1, s2, s3⟩
                    go_simp
                    with_reducible rfl
                  rotate_left
                  · simp only [Act.put, List.setIfInBounds_toArray, List.set_cons_zero, List.set_cons_succ, i64_w, i32_w]
                    rfl
                  refine take_ (i := 6) (N := some 25) (v := ?_) (a' := ?_) #[true, true, true, true, true, true, true, true, false, false, false, false] rfl rfl (take_ofW HT_.out HW_.out (by kernel_rfl)) (fun _ _ _ h => h) (Or.inl ⟨by rfl, ?_⟩) hHeld ?_ ?_
                  rotate_left
                  · rintro w' ⟨s0, s1, s2, s3⟩
                    go_simp
                    with_reducible rfl
                  rotate_left
                  · simp only [Act.put, List.setIfInBounds_toArray, List.set_cons_zero, List.set_cons_succ, i64_w, i32_w]
                    rfl
                  refine pure_ (i := 8) (N := some 27) (v := ?_) (a' := ?_) #[true, true, true, true, true, true, true, true, true, false, false, false] rfl rfl (any_of HT_.out (by kernel_rfl)) (fun _ _ _ h => h) (Or.inl ⟨by rfl, ?_⟩) ?_ ?_
                  rotate_left
                  · intro w'
                    go_simp
                    with_reducible rfl
                  rotate_left
                  · simp only [Act.put, List.setIfInBounds_toArray, List.set_cons_zero, List.set_cons_succ, i64_w, i32_w]
                    rfl
                  refine take_ (i := 9) (N := some 28) (v := ?_) (a' := ?_) #[true, true, true, true, true, true, true, true, true, true, false, false] rfl rfl (take_ofW HT_.out HW_.out (by kernel_rfl)) (fun _ _ _ h => h) (Or.inl ⟨by rfl, ?_⟩) hHeld ?_ ?_
                  rotate_left
                  · rintro w' ⟨s0, s1, s2, s3⟩
                    go_simp
                    with_reducible rfl
                  rotate_left
                  · simp only [Act.put, List.setIfInBounds_toArray, List.set_cons_zero, List.set_cons_succ, i64_w, i32_w]
                    rfl
                  refine one_ (i := 10) (N := some 29) #[true, true, true, true, true, true, true, true, true, true, true, false] rfl rfl (one_of HT_.out (by kernel_rfl)) (by decide) (fun K hK => ?_)
                  refine goes_ Tryz.func112 (by kernel_rfl) rfl #[.agg #[.slice A227_0 ((rd_T47 l0_0 x16_1).f0).length c227_0], .agg #[.slice A228_0 ((rd_T47 l1_0 x16_1).f0).length c228_0]] (by rfl) rfl rfl (by (try simp only [List.map_toArray, List.map_cons, List.map_nil]); first | done | rfl | (simp only [List.length_drop, List.length_take]; rfl)) ?_
                  with_reducible refine (ih k1 (by have := HK1.out; omega) _ _ ((rd_T47 l0_0 x16_1).f0) _ _ ((rd_T47 l1_0 x16_1).f0) true _ ?side1 ?side2 ?side3 ?side4 A13.out).mono ?_
                  (case side1 => repeat (first | exact (Kd.C_below HR227_0.out HB.out) | (with_reducible refine Kd.C_alloc ?_ _) | (with_reducible refine Kd.C_drewN ?_ _) | (with_reducible refine Kd.C_drew ?_)))
                  (case side2 => exact HC227_0.out)
                  (case side3 => repeat (first | exact (Kd.C_below HR228_0.out HB.out) | (with_reducible refine Kd.C_alloc ?_ _) | (with_reducible refine Kd.C_drewN ?_ _) | (with_reducible refine Kd.C_drew ?_)))
                  (case side4 => exact HC228_0.out)
                  rintro e w16 ⟨rfl, hb⟩
                  refine ⟨_, rfl, ?_⟩
                  have n0_ := Aside0.mk (blk_below (g := gb225) (o := .cells #[.slice (some ad227) l0_0.length c0_0] 47 (0, 0)) (by (with_reducible repeat (first | refine blk_drewN ?_ _ | refine blk_drew ?_ | refine blk_alloc ?_ _)); exact BK225.out) hb)
                  have n1_ := Aside0.mk (blk_below (g := gb226) (o := .cells #[.slice (some ad228) l1_0.length c1_0] 47 (0, 0)) (by (with_reducible repeat (first | refine blk_drewN ?_ _ | refine blk_drew ?_ | refine blk_alloc ?_ _)); exact BK226.out) hb)
                  have n2_ := Aside0.mk (below_step (by repeat (first | (with_reducible first | exact HB.out | apply below_alloc | apply pw_below_drewN | apply below_drew1 | refine below_set ?_ GE225.out | refine below_set ?_ GE226.out) | exact HB.out)) hb)
                  clear BK225
                  clear BK226
                  clear HB
                  have BK225 := n0_
                  have BK226 := n1_
                  have HB := n2_
                  clear n0_ n1_ n2_
                  (try clear hb)
                  (try clear hb2)
                  (try clear hk)
                  (try clear hi)
                  refine hK.out _ _ ⟨(blk_cell BK225.out 0).trans rfl, (blk_cell BK226.out 0).trans rfl, ((HB.out.cell (World.block_lt_of_cell? w _ hw227_0)).trans hw227_0), ((HB.out.cell (World.block_lt_of_cell? w _ hw228_0)).trans hw228_0)⟩ (fun hHeld => ?_)
                  clear hK K
                  refine norm_ (a' := ?_) ?_ ?_
                  rotate_left
                  · show Act.put _ (some 29) _ = _
                    simp only [Act.put, List.setIfInBounds_toArray, List.set_cons_zero, List.set_cons_succ, i64_w, i32_w]
                    rfl
                  refine pure_ (i := 11) (N := some 30) (v := ?_) (a' := ?_) #[true, true, true, true, true, true, true, true, true, true, true, true] rfl rfl (any_of HT_.out (by kernel_rfl)) (fun _ _ _ h => h) (Or.inl ⟨by rfl, ?_⟩) ?_ ?_
                  rotate_left
                  · intro w'
                    go_simp
                    with_reducible rfl
                  rotate_left
                  · simp only [Act.put, List.setIfInBounds_toArray, List.set_cons_zero, List.set_cons_succ, i64_w, i32_w]
                    rfl
                  refine done_ (done_of HT_.out (by kernel_rfl)) ?_
                  try go_wp2
                  go_roundg k1
                  case measure => have := HK1.out; omega
                  case rel => exact ⟨(wrap64 (x16_1 + 1)), (by first | rfl | (simp; done) | (simp [*]; done)), H', ⟨by have := HK1.out; omega⟩, ⟨by (with_reducible repeat (first | refine blk_drewN ?_ _ | refine blk_drew ?_ | refine blk_alloc ?_ _)); exact BK225.out⟩, ⟨by (with_reducible repeat (first | refine blk_drewN ?_ _ | refine blk_drew ?_ | refine blk_alloc ?_ _)); exact BK226.out⟩, ⟨by repeat (first | (with_reducible first | exact HB.out | apply below_alloc | apply pw_below_drewN | apply below_drew1 | refine below_set ?_ GE225.out | refine below_set ?_ GE226.out) | exact HB.out)⟩⟩
                · replace c14 := Bool.eq_false_iff.mpr c14
                  subst c14
                  have H1 : (some false) = some r := by rw [if_neg (show ¬ (false = true) by decide)] at H; exact H
                  clear H
                  have H := H1
                  clear H1
                  obtain rfl := Option.some.inj H
                  try go_wp2
                  have n0_ := Aside0.mk (blk_drew BK225.out)
                  have n1_ := Aside0.mk (blk_drew BK226.out)
                  have n2_ := Aside0.mk (below_drew1 HB.out)
                  clear BK225
                  clear BK226
                  clear HB
                  have BK225 := n0_
                  have BK226 := n1_
                  have HB := n2_
                  clear n0_ n1_ n2_
                  have p227 : 0 ≤ (x16_1 : Int) := of_decide_eq_true (by first | (with_reducible assumption) | assumption)
                  have q227 : x16_1 < (l0_0.length : Int) := of_decide_eq_true (by first | (with_reducible assumption) | assumption)
                  obtain ⟨ad227, A227_0, c227_0, e227, hx227_0, hl227_0, hi227_0⟩ := at_T47 HR0_0.out x16_1 p227 q227
                  have hw227_0 := hx227_0
                  cases e227
                  replace hx227_0 := (HB.out.cell (World.block_lt_of_cell? w _ hx227_0)).trans hx227_0
                  have HR227_0 := Aside0.mk hi227_0
                  have HC227_0 := Aside0.mk hl227_0
                  clear hi227_0 hl227_0
                  replace p227 := eq_true p227
                  replace q227 := eq_true q227
                  have p228 : 0 ≤ (x16_1 : Int) := of_decide_eq_true (by first | (with_reducible assumption) | assumption)
                  have q228 : x16_1 < (l1_0.length : Int) := of_decide_eq_true (by first | (with_reducible assumption) | assumption)
                  obtain ⟨ad228, A228_0, c228_0, e228, hx228_0, hl228_0, hi228_0⟩ := at_T47 HR1_0.out x16_1 p228 q228
                  have hw228_0 := hx228_0
                  cases e228
                  replace hx228_0 := (HB.out.cell (World.block_lt_of_cell? w _ hx228_0)).trans hx228_0
                  have HR228_0 := Aside0.mk hi228_0
                  have HC228_0 := Aside0.mk hl228_0
                  clear hi228_0 hl228_0
                  replace p228 := eq_true p228
                  replace q228 := eq_true q228
                  refine start_ (n := 12) (S := fun w' => w'.cell? ⟨gb225, 0, none⟩ = some (.slice (some ad227) l0_0.length c0_0) ∧ w'.cell? ⟨gb226, 0, none⟩ = some (.slice (some ad228) l1_0.length c1_0) ∧ w'.cell? (ad227.add (x16_1).toNat) = some (.slice A227_0 ((rd_T47 l0_0 x16_1).f0).length c227_0) ∧ w'.cell? (ad228.add (x16_1).toNat) = some (.slice A228_0 ((rd_T47 l1_0 x16_1).f0).length c228_0)) (ds := []) #[false, false, false, false, false, false, false, false, false, false, false, false] (by kernel_rfl) rfl rfl ⟨(blk_cell BK225.out 0).trans rfl, (blk_cell BK226.out 0).trans rfl, ((HB.out.cell (World.block_lt_of_cell? w _ hw227_0)).trans hw227_0), ((HB.out.cell (World.block_lt_of_cell? w _ hw228_0)).trans hw228_0)⟩ (fun hHeld => ?_); refine with_tabW sorts_same.tab6 sorts_same.bits6 (fun HT_ HW_ => ?_)
                  generalize wr.drew = w17 at BK225 BK226 HB HR227_0 HR228_0 hx227_0 hx228_0 hHeld ⊢
                  refine pure_ (i := 0) (N := some 19) (v := ?_) (a' := ?_) #[true, false, false, false, false, false, false, false, false, false, false, false] rfl rfl (any_of HT_.out (by kernel_rfl)) (fun _ _ _ h => h) (Or.inl ⟨by rfl, ?_⟩) ?_ ?_
                  rotate_left
                  · intro w'
                    go_simp
                    with_reducible rfl
                  rotate_left
                  · simp only [Act.put, List.setIfInBounds_toArray, List.set_cons_zero, List.set_cons_succ, i64_w, i32_w]
                    rfl
                  refine pure_ (i := 2) (N := some 21) (v := ?_) (a' := ?_) #[true, false, true, false, false, false, false, false, false, false, false, false] rfl rfl (any_of HT_.out (by kernel_rfl)) (fun _ _ _ h => h) (Or.inl ⟨by rfl, ?_⟩) ?_ ?_
                  rotate_left
                  · intro w'
                    go_simp
                    with_reducible rfl
                  rotate_left
                  · simp only [Act.put, List.setIfInBounds_toArray, List.set_cons_zero, List.set_cons_succ, i64_w, i32_w]
                    rfl
                  refine pure_ (i := 5) (N := some 24) (v := ?_) (a' := ?_) #[true, false, true, false, false, true, false, false, false, false, false, false] rfl rfl (any_of HT_.out (by kernel_rfl)) (fun _ _ _ h => h) (Or.inl ⟨by rfl, ?_⟩) ?_ ?_
                  rotate_left
                  · intro w'
                    go_simp
                    with_reducible rfl
                  rotate_left
                  · simp only [Act.put, List.setIfInBounds_toArray, List.set_cons_zero, List.set_cons_succ, i64_w, i32_w]
                    rfl
                  refine pure_ (i := 7) (N := some 26) (v := ?_) (a' := ?_) #[true, false, true, false, false, true, false, true, false, false, false, false] rfl rfl (any_of HT_.out (by kernel_rfl)) (fun _ _ _ h => h) (Or.inl ⟨by rfl, ?_⟩) ?_ ?_
                  rotate_left
                  · intro w'
                    go_simp
                    with_reducible rfl
                  rotate_left
                  · simp only [Act.put, List.setIfInBounds_toArray, List.set_cons_zero, List.set_cons_succ, i64_w, i32_w]
                    rfl
                  refine take_ (i := 1) (N := some 20) (v := ?_) (a' := ?_) #[true, true, true, false, false, true, false, true, false, false, false, false] rfl rfl (take_ofW HT_.out HW_.out (by kernel_rfl)) (fun _ _ _ h => h) (Or.inl ⟨by rfl, ?_⟩) hHeld ?_ ?_
                  rotate_left
                  · rintro w' ⟨s0, s1, s2, s3⟩
                    go_simp
                    with_reducible rfl
                  rotate_left
                  · simp only [Act.put, List.setIfInBounds_toArray, List.set_cons_zero, List.set_cons_succ, i64_w, i32_w]
                    rfl
                  refine pure_ (i := 3) (N := some 22) (v := ?_) (a' := ?_) #[true, true, true, true, false, true, false, true, false, false, false, false] rfl rfl (any_of HT_.out (by kernel_rfl)) (fun _ _ _ h => h) (Or.inl ⟨by rfl, ?_⟩) ?_ ?_
                  rotate_left
                  · intro w'
                    go_simp
                    with_reducible rfl
                  rotate_left
                  · simp only [Act.put, List.setIfInBounds_toArray, List.set_cons_zero, List.set_cons_succ, i64_w, i32_w]
                    rfl
                  refine take_ (i := 4) (N := some 23) (v := ?_) (a' := ?_) #[true, true, true, true, true, true, false, true, false, false, false, false] rfl rfl (take_ofW HT_.out HW_.out (by kernel_rfl)) (fun _ _ _ h => h) (Or.inl ⟨by rfl, ?_⟩) hHeld ?_ ?_
                  rotate_left
                  · rintro w' ⟨s0, s1, s2, s3⟩
                    go_simp
                    with_reducible rfl
                  rotate_left
                  · simp only [Act.put, List.setIfInBounds_toArray, List.set_cons_zero, List.set_cons_succ, i64_w, i32_w]
                    rfl
                  refine take_ (i := 6) (N := some 25) (v := ?_) (a' := ?_) #[true, true, true, true, true, true, true, true, false, false, false, false] rfl rfl (take_ofW HT_.out HW_.out (by kernel_rfl)) (fun _ _ _ h => h) (Or.inl ⟨by rfl, ?_⟩) hHeld ?_ ?_
                  rotate_left
                  · rintro w' ⟨s0, s1, s2, s3⟩
                    go_simp
                    with_reducible rfl
                  rotate_left
                  · simp only [Act.put, List.setIfInBounds_toArray, List.set_cons_zero, List.set_cons_succ, i64_w, i32_w]
                    rfl
                  refine pure_ (i := 8) (N := some 27) (v := ?_) (a' := ?_) #[true, true, true, true, true, true, true, true, true, false, false, false] rfl rfl (any_of HT_.out (by kernel_rfl)) (fun _ _ _ h => h) (Or.inl ⟨by rfl, ?_⟩) ?_ ?_
                  rotate_left
                  · intro w'
                    go_simp
                    with_reducible rfl
                  rotate_left
                  · simp only [Act.put, List.setIfInBounds_toArray, List.set_cons_zero, List.set_cons_succ, i64_w, i32_w]
                    rfl
                  refine take_ (i := 9) (N := some 28) (v := ?_) (a' := ?_) #[true, true, true, true, true, true, true, true, true, true, false, false] rfl rfl (take_ofW HT_.out HW_.out (by kernel_rfl)) (fun _ _ _ h => h) (Or.inl ⟨by rfl, ?_⟩) hHeld ?_ ?_
                  rotate_left
                  · rintro w' ⟨s0, s1, s2, s3⟩
                    go_simp
                    with_reducible rfl
                  rotate_left
                  · simp only [Act.put, List.setIfInBounds_toArray, List.set_cons_zero, List.set_cons_succ, i64_w, i32_w]
                    rfl
                  refine one_ (i := 10) (N := some 29) #[true, true, true, true, true, true, true, true, true, true, true, false] rfl rfl (one_of HT_.out (by kernel_rfl)) (by decide) (fun K hK => ?_)
                  refine goes_ Tryz.func112 (by kernel_rfl) rfl #[.agg #[.slice A227_0 ((rd_T47 l0_0 x16_1).f0).length c227_0], .agg #[.slice A228_0 ((rd_T47 l1_0 x16_1).f0).length c228_0]] (by rfl) rfl rfl (by (try simp only [List.map_toArray, List.map_cons, List.map_nil]); first | done | rfl | (simp only [List.length_drop, List.length_take]; rfl)) ?_
                  with_reducible refine (ih k1 (by have := HK1.out; omega) _ _ ((rd_T47 l0_0 x16_1).f0) _ _ ((rd_T47 l1_0 x16_1).f0) false _ ?side1 ?side2 ?side3 ?side4 A13.out).mono ?_
                  (case side1 => repeat (first | exact (Kd.C_below HR227_0.out HB.out) | (with_reducible refine Kd.C_alloc ?_ _) | (with_reducible refine Kd.C_drewN ?_ _) | (with_reducible refine Kd.C_drew ?_)))
                  (case side2 => exact HC227_0.out)
                  (case side3 => repeat (first | exact (Kd.C_below HR228_0.out HB.out) | (with_reducible refine Kd.C_alloc ?_ _) | (with_reducible refine Kd.C_drewN ?_ _) | (with_reducible refine Kd.C_drew ?_)))
                  (case side4 => exact HC228_0.out)
                  rintro e w18 ⟨rfl, hb⟩
                  refine ⟨_, rfl, ?_⟩
                  have n0_ := Aside0.mk (blk_below (g := gb225) (o := .cells #[.slice (some ad227) l0_0.length c0_0] 47 (0, 0)) (by (with_reducible repeat (first | refine blk_drewN ?_ _ | refine blk_drew ?_ | refine blk_alloc ?_ _)); exact BK225.out) hb)
                  have n1_ := Aside0.mk (blk_below (g := gb226) (o := .cells #[.slice (some ad228) l1_0.length c1_0] 47 (0, 0)) (by (with_reducible repeat (first | refine blk_drewN ?_ _ | refine blk_drew ?_ | refine blk_alloc ?_ _)); exact BK226.out) hb)
                  have n2_ := Aside0.mk (below_step (by repeat (first | (with_reducible first | exact HB.out | apply below_alloc | apply pw_below_drewN | apply below_drew1 | refine below_set ?_ GE225.out | refine below_set ?_ GE226.out) | exact HB.out)) hb)
                  clear BK225
                  clear BK226
                  clear HB
                  have BK225 := n0_
                  have BK226 := n1_
                  have HB := n2_
                  clear n0_ n1_ n2_
                  (try clear hb)
                  (try clear hb2)
                  (try clear hk)
                  (try clear hi)
                  refine hK.out _ _ ⟨(blk_cell BK225.out 0).trans rfl, (blk_cell BK226.out 0).trans rfl, ((HB.out.cell (World.block_lt_of_cell? w _ hw227_0)).trans hw227_0), ((HB.out.cell (World.block_lt_of_cell? w _ hw228_0)).trans hw228_0)⟩ (fun hHeld => ?_)
                  clear hK K
                  refine norm_ (a' := ?_) ?_ ?_
                  rotate_left
                  · show Act.put _ (some 29) _ = _
                    simp only [Act.put, List.setIfInBounds_toArray, List.set_cons_zero, List.set_cons_succ, i64_w, i32_w]
                    rfl
                  refine pure_ (i := 11) (N := some 30) (v := ?_) (a' := ?_) #[true, true, true, true, true, true, true, true, true, true, true, true] rfl rfl (any_of HT_.out (by kernel_rfl)) (fun _ _ _ h => h) (Or.inl ⟨by rfl, ?_⟩) ?_ ?_
                  rotate_left
                  · intro w'
                    go_simp
                    with_reducible rfl
                  rotate_left
                  · simp only [Act.put, List.setIfInBounds_toArray, List.set_cons_zero, List.set_cons_succ, i64_w, i32_w]
                    rfl
                  refine done_ (done_of HT_.out (by kernel_rfl)) ?_
                  try go_wp2
                  go_ret
                  exact ⟨by first | rfl | (simp [errW_none, errW_some] <;> rfl) | (simp [*, errW_none, errW_some] <;> rfl), by repeat (first | (with_reducible first | exact HB.out | apply below_alloc | apply pw_below_drewN | apply below_drew1 | refine below_set ?_ GE225.out | refine below_set ?_ GE226.out) | exact HB.out)⟩
              · rw [if_neg c12] at H
                exact absurd H (by simp)
            · rw [if_neg c11] at H
              exact absurd H (by simp)
          · rw [if_neg c10] at H
            exact absurd H (by simp)
        · rw [if_neg c9] at H
          have c9b0 : decide (x16_1 < (l0_0.length : Int)) = false := decide_eq_false c9
          clear c9
          obtain rfl := Option.some.inj H
          go_wp2
          go_ret
          exact ⟨by first | rfl | (simp [errW_none, errW_some] <;> rfl) | (simp [*, errW_none, errW_some] <;> rfl), by repeat (first | (with_reducible first | exact HB.out | apply below_alloc | apply pw_below_drewN | apply below_drew1 | refine below_set ?_ GE225.out | refine below_set ?_ GE226.out) | exact HB.out)⟩
  · rw [if_neg c3] at H
    have c3b0 : ((l0_0.length : Int) == (l1_0.length : Int)) = false := beq_eq_false_iff_ne.mpr c3
    have c3b1 : ((l0_0.length : Int) != (l1_0.length : Int)) = true := bne_iff_ne.mpr c3
    have c3b2 : (l0_0.length == l1_0.length) = false := by first | simpa using c3 | (simp at c3 ⊢; omega)
    obtain rfl := Option.some.inj H
    go_enter Tryz.func112, Tryz.ntmps112
    go_wp2_with (first | ((with_reducible refine gate_dst (N := 2) rfl ?_); refine box_event ?hg (N := 2) ?hd (cs := #[.slice A0_0 l0_0.length c0_0]) (t := 47) ?hr ?_; (case hd => rfl); (case hg => rfl); (case hr => first | (go_simp; done) | (go_simp; rfl)); intro gb225 hg w19 hbox hb; have n0_ := Aside0.mk (below_step (by repeat (first | (with_reducible first | exact HB.out | apply below_alloc | apply pw_below_drewN | apply below_drew1) | exact HB.out)) hb); have n1_ := Aside0.mk (hbox); have n2_ := Aside0.mk ((by rw [hg]; exact (below_size (by repeat (first | (with_reducible first | exact HB.out | apply below_alloc | apply pw_below_drewN | apply below_drew1) | exact HB.out))) : w.heap.size ≤ gb225)); have n3_ := Aside0.mk ((by rw [hg]; exact (below_size (by repeat (first | (with_reducible first | exact HB.out | apply below_alloc | apply pw_below_drewN | apply below_drew1) | exact HB.out))) : w.heap.size ≤ gb225)); clear HB; have HB := n0_; have BK225 := n1_; have GW225 := n2_; have GE225 := n3_; clear n0_ n1_ n2_ n3_; clear hb hbox hg) | ((with_reducible refine gate_dst (N := 3) rfl ?_); refine box_event ?hg (N := 3) ?hd (cs := #[.slice A1_0 l1_0.length c1_0]) (t := 47) ?hr ?_; (case hd => rfl); (case hg => rfl); (case hr => first | (go_simp; done) | (go_simp; rfl)); intro gb226 hg w20 hbox hb; have n0_ := Aside0.mk (blk_below (g := gb225) (o := .cells #[.slice A0_0 l0_0.length c0_0] 47 (0, 0)) (by (with_reducible repeat (first | refine blk_drewN ?_ _ | refine blk_drew ?_ | refine blk_alloc ?_ _)); exact BK225.out) hb); have n1_ := Aside0.mk (below_step (by repeat (first | (with_reducible first | exact HB.out | apply below_alloc | apply pw_below_drewN | apply below_drew1 | refine below_set ?_ GE225.out) | exact HB.out)) hb); have n2_ := Aside0.mk (hbox); have n3_ := Aside0.mk ((by rw [hg]; exact (below_size (by repeat (first | (with_reducible first | exact HB.out | apply below_alloc | apply pw_below_drewN | apply below_drew1 | refine below_set ?_ GE225.out) | exact HB.out))) : w.heap.size ≤ gb226)); have n4_ := Aside0.mk ((by rw [hg]; exact (below_size (by repeat (first | (with_reducible first | exact HB.out | apply below_alloc | apply pw_below_drewN | apply below_drew1 | refine below_set ?_ GE225.out) | exact HB.out))) : w.heap.size ≤ gb226)); have n5_ := Aside0.mk ((by rw [hg]; exact Nat.ne_of_lt (blk_lt (g := gb225) (o := .cells #[.slice A0_0 l0_0.length c0_0] 47 (0, 0)) (by (with_reducible repeat (first | refine blk_drewN ?_ _ | refine blk_drew ?_ | refine blk_alloc ?_ _)); exact BK225.out)) : gb225 ≠ gb226)); have n6_ := Aside0.mk ((by rw [hg]; exact Nat.ne_of_gt (blk_lt (g := gb225) (o := .cells #[.slice A0_0 l0_0.length c0_0] 47 (0, 0)) (by (with_reducible repeat (first | refine blk_drewN ?_ _ | refine blk_drew ?_ | refine blk_alloc ?_ _)); exact BK225.out)) : gb226 ≠ gb225)); clear BK225; clear HB; have BK225 := n0_; have HB := n1_; have BK226 := n2_; have GW226 := n3_; have GE226 := n4_; have NB225_226 := n5_; have NB226_225 := n6_; clear n0_ n1_ n2_ n3_ n4_ n5_ n6_; clear hb hbox hg; have hnb21 := NB225_226.out; have hnc21 := NB226_225.out; have hcz22_0 : w20.cell? ⟨gb225, 0, none⟩ = some (.slice A0_0 l0_0.length c0_0) := (blk_cell BK225.out 0).trans rfl; have hfz22_0 := blk_frozen BK225.out 0; have hcz23_0 : w20.cell? ⟨gb226, 0, none⟩ = some (.slice A1_0 l1_0.length c1_0) := (blk_cell BK226.out 0).trans rfl; have hfz23_0 := blk_frozen BK226.out 0))
    go_ret
    exact ⟨by first | rfl | (simp [errW_none, errW_some] <;> rfl) | (simp [*, errW_none, errW_some] <;> rfl), by repeat (first | (with_reducible first | exact HB.out | apply below_alloc | apply pw_below_drewN | apply below_drew1 | refine below_set ?_ GE225.out | refine below_set ?_ GE226.out) | exact HB.out)⟩
mutual
def sorts_order.l0 : Nat → Int → List (S47) → Int → Int → Option (Int)
  | 0, _, _, _, _ => none
  | k + 1, x3, x7, x8, x9 => if x9 < x8 then (if 0 ≤ x9 then (if x9 < (x7.length : Int) then ((sorts_order.f k ((rd_T47 x7 x9).f0)).bind fun t233 => (sorts_order.l0 k (mx x3 (wrap64 (t233 + 1))) x7 x8 (wrap64 (x9 + 1)))) else (none)) else (none)) else (some x3)
def sorts_order.f : Nat → List (S47) → Option (Int)
  | 0, _ => none
  | k + 1, l0_0 => sorts_order.l0 k 0 l0_0 (l0_0.length : Int) 0
end
set_option maxHeartbeats 8000000 in
set_option maxRecDepth 100000 in
theorem sorts_order.calls (k : Nat) : ∀ (A0_0 : Option Addr) (c0_0 : Nat) (l0_0 : List (S47)) (r : Int) (w : World) (hr0_0 : Kd.C k47 w A0_0 l0_0.length l0_0) (hc0_0 : l0_0.length ≤ c0_0) (h : sorts_order.f k l0_0 = some r),
    Calls Tryz.prog 111 #[.agg #[.slice A0_0 l0_0.length c0_0]] w fun e w' => e = .returned (.int .i64 r) ∧ Below w.heap.size w w' := by
  induction k using Nat.strongRecOn with
  | _ k ih =>
  intro A0_0 c0_0 l0_0 r w hr0_0 hc0_0 h
  cases k with
  | zero => exact absurd h (by simp [sorts_order.f])
  | succ k =>
  simp only [sorts_order.f] at h
  have hu47 := Tryz.underlying47
  have HR0_0 := Aside0.mk hr0_0
  have HC0_0 := Aside0.mk hc0_0
  clear hr0_0 hc0_0
  have HB := Aside0.mk (Below.refl w.heap.size w)
  have H : (sorts_order.l0 k 0 l0_0 (l0_0.length : Int) 0) = some r := h
  clear h
  have H' := Aside0.mk H
  clear H
  go_enter Tryz.func111, Tryz.ntmps111
  go_wp2_with (first | ((with_reducible refine gate_dst (N := 1) rfl ?_); refine box_event ?hg (N := 1) ?hd (cs := #[.slice A0_0 l0_0.length c0_0]) (t := 47) ?hr ?_; (case hd => rfl); (case hg => rfl); (case hr => first | (go_simp; done) | (go_simp; rfl)); intro gb230 hg w2 hbox hb; have n0_ := Aside0.mk (below_step (by repeat (first | (with_reducible first | exact HB.out | apply below_alloc | apply pw_below_drewN | apply below_drew1) | exact HB.out)) hb); have n1_ := Aside0.mk (hbox); have n2_ := Aside0.mk ((by rw [hg]; exact (below_size (by repeat (first | (with_reducible first | exact HB.out | apply below_alloc | apply pw_below_drewN | apply below_drew1) | exact HB.out))) : w.heap.size ≤ gb230)); have n3_ := Aside0.mk ((by rw [hg]; exact (below_size (by repeat (first | (with_reducible first | exact HB.out | apply below_alloc | apply pw_below_drewN | apply below_drew1) | exact HB.out))) : w.heap.size ≤ gb230)); clear HB; have HB := n0_; have BK230 := n1_; have GW230 := n2_; have GE230 := n3_; clear n0_ n1_ n2_ n3_; clear hb hbox hg; have hcz3_0 : w2.cell? ⟨gb230, 0, none⟩ = some (.slice A0_0 l0_0.length c0_0) := (blk_cell BK230.out 0).trans rfl; have hfz3_0 := blk_frozen BK230.out 0))
  go_loopg [3, 9] k (fun kq v3 v9 w' => ∃ (x3_1 : Int) (x9_1 : Int), v3 = .int .i64 x3_1 ∧ v9 = .int .i64 x9_1 ∧ Aside0 (sorts_order.l0 kq x3_1 l0_0 (l0_0.length : Int) x9_1 = some r) ∧ Aside0 (kq ≤ k) ∧ Aside0 (w'.heap[gb230]? = some (.cells #[(.slice A0_0 l0_0.length c0_0)] 47 (0, 0))) ∧ Aside0 (Below w.heap.size w w'))
  case atStart => exact ⟨(0), (0), (by first | rfl | (simp; done) | (simp [*]; done)), (by first | rfl | (simp; done) | (simp [*]; done)), H', ⟨Nat.le_refl _⟩, ⟨by (with_reducible repeat (first | refine blk_drewN ?_ _ | refine blk_drew ?_ | refine blk_alloc ?_ _)); exact BK230.out⟩, ⟨by repeat (first | (with_reducible first | exact HB.out | apply below_alloc | apply pw_below_drewN | apply below_drew1 | refine below_set ?_ GE230.out) | exact HB.out)⟩⟩
  case round =>
    clear H'
    try clear c1
    try clear p2
    try clear hcz3_0
    try clear hfz3_0
    obtain ⟨x3_1, x9_1, rfl, rfl, HA, HK1, BK230, HB⟩ := hrel
    cases gk with
    | zero => exact absurd HA.out (by simp [sorts_order.l0])
    | succ k1 =>
      have H := HA.out
      clear HA
      simp only [sorts_order.l0] at H
      by_cases c4 : x9_1 < (l0_0.length : Int)
      · rw [if_pos c4] at H
        have c4b0 : decide (x9_1 < (l0_0.length : Int)) = true := decide_eq_true c4
        clear c4
        by_cases c5 : 0 ≤ x9_1
        · rw [if_pos c5] at H
          have c5b0 : decide (0 ≤ x9_1) = true := decide_eq_true c5
          clear c5
          by_cases c6 : x9_1 < (l0_0.length : Int)
          · rw [if_pos c6] at H
            have c6b0 : decide (x9_1 < (l0_0.length : Int)) = true := decide_eq_true c6
            clear c6
            replace H := Option.bind_eq_some_iff.mp H
            obtain ⟨t233, A70, H⟩ := H
            replace H : (sorts_order.l0 k1 (mx x3_1 (wrap64 (t233 + 1))) l0_0 (l0_0.length : Int) (wrap64 (x9_1 + 1))) = some r := H
            have A7 := Aside0.mk A70
            clear A70
            obtain ⟨ji8, hji8⟩ : ∃ j_ : Int, (mx x3_1 (wrap64 (t233 + 1))) = j_ := ⟨_, rfl⟩
            replace H : (sorts_order.l0 k1 ji8 l0_0 (l0_0.length : Int) (wrap64 (x9_1 + 1))) = some r := by first | (rw [hji8] at H; exact H) | (simp only [hji8] at H ⊢; exact H)
            (try rw [hji8] at A7)
            have hji8_ : (if x3_1 < (wrap64 (t233 + 1)) then (wrap64 (t233 + 1)) else x3_1) = ji8 := hji8
            have H' := Aside0.mk H
            clear H
            have p231 : 0 ≤ (x9_1 : Int) := of_decide_eq_true (by first | (with_reducible assumption) | assumption)
            have q231 : x9_1 < (l0_0.length : Int) := of_decide_eq_true (by first | (with_reducible assumption) | assumption)
            obtain ⟨ad231, A231_0, c231_0, e231, hx231_0, hl231_0, hi231_0⟩ := at_T47 HR0_0.out x9_1 p231 q231
            cases e231
            replace hx231_0 := (HB.out.cell (World.block_lt_of_cell? w _ hx231_0)).trans hx231_0
            have HR231_0 := Aside0.mk hi231_0
            have HC231_0 := Aside0.mk hl231_0
            clear hi231_0 hl231_0
            replace p231 := eq_true p231
            replace q231 := eq_true q231
            go_wp2_with (first | ((with_reducible refine gate_dst (N := 5) rfl ?_); refine box_event ?hg (N := 5) ?hd (cs := #[.slice none 0 0]) (t := 47) ?hr ?_; (case hd => rfl); (case hg => rfl); (case hr => first | (go_simp; done) | (go_simp; rfl)); intro gb232 hg w9 hbox hb; have n0_ := Aside0.mk (blk_below (g := gb230) (o := .cells #[.slice (some ad231) l0_0.length c0_0] 47 (0, 0)) (by (with_reducible repeat (first | refine blk_drewN ?_ _ | refine blk_drew ?_ | refine blk_alloc ?_ _)); exact BK230.out) hb); have n1_ := Aside0.mk (below_step (by repeat (first | (with_reducible first | exact HB.out | apply below_alloc | apply pw_below_drewN | apply below_drew1 | refine below_set ?_ GE230.out) | exact HB.out)) hb); have n2_ := Aside0.mk (hbox); have n3_ := Aside0.mk ((by rw [hg]; exact (below_size (by repeat (first | (with_reducible first | exact HB.out | apply below_alloc | apply pw_below_drewN | apply below_drew1 | refine below_set ?_ GE230.out) | exact HB.out))) : w.heap.size ≤ gb232)); have n4_ := Aside0.mk ((by rw [hg]; exact (below_size (by repeat (first | (with_reducible first | exact HB.out | apply below_alloc | apply pw_below_drewN | apply below_drew1 | refine below_set ?_ GE230.out) | exact HB.out))) : w.heap.size ≤ gb232)); have n5_ := Aside0.mk ((by rw [hg]; exact Nat.ne_of_lt (blk_lt (g := gb230) (o := .cells #[.slice (some ad231) l0_0.length c0_0] 47 (0, 0)) (by (with_reducible repeat (first | refine blk_drewN ?_ _ | refine blk_drew ?_ | refine blk_alloc ?_ _)); exact BK230.out)) : gb230 ≠ gb232)); have n6_ := Aside0.mk ((by rw [hg]; exact Nat.ne_of_gt (blk_lt (g := gb230) (o := .cells #[.slice (some ad231) l0_0.length c0_0] 47 (0, 0)) (by (with_reducible repeat (first | refine blk_drewN ?_ _ | refine blk_drew ?_ | refine blk_alloc ?_ _)); exact BK230.out)) : gb232 ≠ gb230)); clear BK230; clear HB; have BK230 := n0_; have HB := n1_; have BK232 := n2_; have GW232 := n3_; have GE232 := n4_; have NB230_232 := n5_; have NB232_230 := n6_; clear n0_ n1_ n2_ n3_ n4_ n5_ n6_; clear hb hbox hg; have hnb10 := NB232_230.out; have hnc10 := NB230_232.out; have hcz11_0 : w9.cell? ⟨gb232, 0, none⟩ = some (.slice none 0 0) := (blk_cell BK232.out 0).trans rfl; have hfz11_0 := blk_frozen BK232.out 0) | ((with_reducible refine gate_callee (f := 111) rfl ?_); refine goesL_ (some 15) rfl rfl Tryz.func111 (by kernel_rfl) rfl #[.agg #[.slice A231_0 ((rd_T47 l0_0 x9_1).f0).length c231_0]] rfl (by (try simp only [List.map_toArray, List.map_cons, List.map_nil]); first | done | rfl | (simp only [List.length_drop, List.length_take]; rfl)) ?_; (with_reducible refine (ih k1 (by have := HK1.out; omega) _ _ ((rd_T47 l0_0 x9_1).f0) t233 _ ?side1 ?side2 A7.out).mono ?_); (case side1 => exact Kd.C_below HR231_0.out (by repeat (first | (with_reducible first | exact HB.out | apply below_alloc | apply pw_below_drewN | apply below_drew1 | refine below_set ?_ GE230.out | refine below_set ?_ GE232.out) | exact HB.out))); (case side2 => exact HC231_0.out); rintro e w12 ⟨rfl, hb⟩; refine ⟨_, rfl, ?_⟩; have n0_ := Aside0.mk (blk_below (g := gb230) (o := .cells #[.slice (some ad231) l0_0.length c0_0] 47 (0, 0)) (by (with_reducible repeat (first | refine blk_drewN ?_ _ | refine blk_drew ?_ | refine blk_alloc ?_ _)); refine blk_far ?_ NB230_232.out _; (with_reducible repeat (first | refine blk_drewN ?_ _ | refine blk_drew ?_ | refine blk_alloc ?_ _)); exact BK230.out) hb); have n1_ := Aside0.mk (blk_below (g := gb232) (o := .cells #[.slice A231_0 ((rd_T47 l0_0 x9_1).f0).length c231_0] 47 (0, 0)) (by (with_reducible repeat (first | refine blk_drewN ?_ _ | refine blk_drew ?_ | refine blk_alloc ?_ _)); refine blk_put (cs := #[.slice none 0 0]) ?_ 0 _ rfl; (with_reducible repeat (first | refine blk_drewN ?_ _ | refine blk_drew ?_ | refine blk_alloc ?_ _)); exact BK232.out) hb); have n2_ := Aside0.mk (below_step (by repeat (first | (with_reducible first | exact HB.out | apply below_alloc | apply pw_below_drewN | apply below_drew1 | refine below_set ?_ GE230.out | refine below_set ?_ GE232.out) | exact HB.out)) hb); clear BK230; clear BK232; clear HB; have BK230 := n0_; have BK232 := n1_; have HB := n2_; clear n0_ n1_ n2_; (try clear hb); (try clear hb2); (try clear hk); (try clear hi)))
            go_roundg k1
            case measure => have := HK1.out; omega
            case rel => exact ⟨(ji8), (wrap64 (x9_1 + 1)), (by first | rfl | (simp; done) | (simp only [← hji8] <;> (first | rfl | simp)) | (simp [*]; done)), (by first | rfl | (simp; done) | (simp [*]; done)), H', ⟨by have := HK1.out; omega⟩, ⟨by (with_reducible repeat (first | refine blk_drewN ?_ _ | refine blk_drew ?_ | refine blk_alloc ?_ _)); exact BK230.out⟩, ⟨by repeat (first | (with_reducible first | exact HB.out | apply below_alloc | apply pw_below_drewN | apply below_drew1 | refine below_set ?_ GE230.out | refine below_set ?_ GE232.out) | exact HB.out)⟩⟩
          · rw [if_neg c6] at H
            exact absurd H (by simp)
        · rw [if_neg c5] at H
          exact absurd H (by simp)
      · rw [if_neg c4] at H
        have c4b0 : decide (x9_1 < (l0_0.length : Int)) = false := decide_eq_false c4
        clear c4
        obtain rfl := Option.some.inj H
        go_wp2
        go_ret
        exact ⟨by first | rfl | (simp [errW_none, errW_some] <;> rfl) | (simp [*, errW_none, errW_some] <;> rfl), by repeat (first | (with_reducible first | exact HB.out | apply below_alloc | apply pw_below_drewN | apply below_drew1 | refine below_set ?_ GE230.out) | exact HB.out)⟩
end Go.Proofs.YthflpbgloeimfaaGreatDoor.Q
namespace Go.Proofs.YthflpbgloeimfaaGreatDoor.Q
open Go.RowKit Go.Proofs.YthflpbgloeimfaaGreatDoorW.PrintWords Go.Proofs.YthflpbgloeimfaaGreatDoorW.PrintLast Go.Proofs.YthflpbgloeimfaaGreatDoorW.PrintMore
attribute [local go_sem] max2_int min2_int max_two min_two max_three min_three max_four min_four
set_option linter.unusedVariables false
set_option linter.unusedSimpArgs false
mutual
def term_Name.j0 : Nat → ByteArray → Bool → Option (Bool)
  | 0, _, _ => none
  | k + 1, x0, x22 => if x22 = true then (some false) else (term_Name.l0 k x0 (x0.size : Int) 0)
def term_Name.l0 : Nat → ByteArray → Int → Int → Option (Bool)
  | 0, _, _, _ => none
  | k + 1, x0, x24, x25 => if x25 < x24 then (if 0 ≤ x25 then (if x25 < (x0.size : Int) then (if (bt x0 x25) < 97 then (if (bt x0 x25) < 48 then (if (bt x0 x25) = 95 then (term_Name.l0 k x0 x24 (wrap64 (x25 + 1))) else (some false)) else (if (bt x0 x25) > 57 then (if (bt x0 x25) = 95 then (term_Name.l0 k x0 x24 (wrap64 (x25 + 1))) else (some false)) else (term_Name.l0 k x0 x24 (wrap64 (x25 + 1))))) else (if (bt x0 x25) > 122 then (if (bt x0 x25) < 48 then (if (bt x0 x25) = 95 then (term_Name.l0 k x0 x24 (wrap64 (x25 + 1))) else (some false)) else (if (bt x0 x25) > 57 then (if (bt x0 x25) = 95 then (term_Name.l0 k x0 x24 (wrap64 (x25 + 1))) else (some false)) else (term_Name.l0 k x0 x24 (wrap64 (x25 + 1))))) else (term_Name.l0 k x0 x24 (wrap64 (x25 + 1))))) else (none)) else (none)) else (some true)
end
def term_Name.f (k : Nat) (a0 : ByteArray) : Option (Bool) := if (a0.size : Int) = 0 then (term_Name.j0 k a0 true) else (if (a0.size : Int) > 24 then (term_Name.j0 k a0 true) else (if 0 < (a0.size : Int) then (if (bt a0 0) < 97 then (term_Name.j0 k a0 true) else (term_Name.j0 k a0 (decide ((bt a0 0) > 122)))) else (none)))
set_option maxHeartbeats 8000000 in
set_option maxRecDepth 100000 in
theorem term_Name.calls (k : Nat) (a0 : ByteArray) (r : Bool) (w : World) (h : term_Name.f k a0 = some r) :
    Calls Tryz.prog 39 #[.string a0] w fun e w' => e = .returned (.bool r) ∧ Drawn0 w w' := by
  have H : (if (a0.size : Int) = 0 then (term_Name.j0 k a0 true) else (if (a0.size : Int) > 24 then (term_Name.j0 k a0 true) else (if 0 < (a0.size : Int) then (if (bt a0 0) < 97 then (term_Name.j0 k a0 true) else (term_Name.j0 k a0 (decide ((bt a0 0) > 122)))) else (none)))) = some r := h
  clear h
  have HC2 := Aside0.mk H
  clear H
  go_enter Tryz.func39, Tryz.ntmps39
  go_upto_region 1 with (fail)
  go_cut [22] (fun v22 wc => ∃ (kq : Nat) (x22_1 : Bool), v22 = .bool x22_1 ∧ Aside0 (term_Name.j0 kq a0 x22_1 = some r) ∧ Aside0 (kq ≤ k) ∧ Drawn0 w wc)
  case first =>
    have H := HC2.out
    clear HC2
    by_cases c3 : (a0.size : Int) = 0
    · rw [if_pos c3] at H
      have c3b0 : ((a0.size : Int) == 0) = true := beq_iff_eq.mpr c3
      have c3b1 : ((a0.size : Int) != 0) = false := bne_eq_false_iff_eq.mpr c3
      clear c3
      (first | rw [c3b0] | (simp only [i64_w, i32_w]; rw [c3b0]) | skip)
      have H' := Aside0.mk H
      clear H
      go_wp2
      go_meet
      case rel => exact ⟨_, (true), (by first | rfl | (simp; done) | (simp [*]; done)), H', ⟨by first | omega | exact Nat.le_refl _⟩, by repeat (first | exact Drawn0.refl _ | apply Drawn0.step)⟩
    · rw [if_neg c3] at H
      have c3b0 : ((a0.size : Int) == 0) = false := beq_eq_false_iff_ne.mpr c3
      have c3b1 : ((a0.size : Int) != 0) = true := bne_iff_ne.mpr c3
      (first | rw [c3b0] | (simp only [i64_w, i32_w]; rw [c3b0]) | skip)
      by_cases c4 : (a0.size : Int) > 24
      · rw [if_pos c4] at H
        have c4b0 : decide (24 < (a0.size : Int)) = true := decide_eq_true c4
        have c4b1 : decide (24 < a0.size) = true := decide_eq_true (by omega)
        clear c4
        have H' := Aside0.mk H
        clear H
        go_wp2
        go_meet
        case rel => exact ⟨_, (true), (by first | rfl | (simp; done) | (simp [*]; done)), H', ⟨by first | omega | exact Nat.le_refl _⟩, by repeat (first | exact Drawn0.refl _ | apply Drawn0.step)⟩
      · rw [if_neg c4] at H
        have c4b0 : decide (24 < (a0.size : Int)) = false := decide_eq_false c4
        have c4b1 : decide (24 < a0.size) = false := decide_eq_false (by omega)
        clear c4
        by_cases c5 : 0 < (a0.size : Int)
        · rw [if_pos c5] at H
          have c5b0 : decide (0 < (a0.size : Int)) = true := decide_eq_true c5
          have c5b1 : decide (0 < a0.size) = true := decide_eq_true (by omega)
          clear c5
          by_cases c7 : (bt a0 0) < 97
          · rw [if_pos c7] at H
            have c7b0 : decide ((bt a0 0) < 97) = true := decide_eq_true c7
            clear c7
            have H' := Aside0.mk H
            clear H
            have p6 : 0 ≤ (0 : Int) := (by omega)
            have q6 : 0 < a0.size := (by have : (0 : Int) < (a0.size : Int) := of_decide_eq_true (by first | (with_reducible assumption) | assumption); omega)
            have hx6 : ∀ h : 0 < a0.size, ((a0[0]'h).toNat : Int) = bt a0 0 := bt_at a0 0
            clear p6
            have qi6 : (0 < (a0.size : Int)) = True := eq_true (of_decide_eq_true (by first | (with_reducible assumption) | assumption))
            replace q6 := eq_true q6
            go_wp2
            go_meet
            case rel => exact ⟨_, (true), (by first | rfl | (simp; done) | (simp [*]; done)), H', ⟨by first | omega | exact Nat.le_refl _⟩, by repeat (first | exact Drawn0.refl _ | apply Drawn0.step)⟩
          · rw [if_neg c7] at H
            have c7b0 : decide ((bt a0 0) < 97) = false := decide_eq_false c7
            clear c7
            have H' := Aside0.mk H
            clear H
            have p6 : 0 ≤ (0 : Int) := (by omega)
            have q6 : 0 < a0.size := (by have : (0 : Int) < (a0.size : Int) := of_decide_eq_true (by first | (with_reducible assumption) | assumption); omega)
            have hx6 : ∀ h : 0 < a0.size, ((a0[0]'h).toNat : Int) = bt a0 0 := bt_at a0 0
            clear p6
            have qi6 : (0 < (a0.size : Int)) = True := eq_true (of_decide_eq_true (by first | (with_reducible assumption) | assumption))
            replace q6 := eq_true q6
            have p8 : 0 ≤ (0 : Int) := (by omega)
            have q8 : 0 < a0.size := (by have : (0 : Int) < (a0.size : Int) := of_decide_eq_true (by first | (with_reducible assumption) | assumption); omega)
            have hx8 : ∀ h : 0 < a0.size, ((a0[0]'h).toNat : Int) = bt a0 0 := bt_at a0 0
            clear p8
            have qi8 : (0 < (a0.size : Int)) = True := eq_true (of_decide_eq_true (by first | (with_reducible assumption) | assumption))
            replace q8 := eq_true q8
            go_wp2
            go_meet
            case rel => exact ⟨_, (decide ((bt a0 0) > 122)), (by first | rfl | (simp; done) | (simp [*]; done)), H', ⟨by first | omega | exact Nat.le_refl _⟩, by repeat (first | exact Drawn0.refl _ | apply Drawn0.step)⟩
        · rw [if_neg c5] at H
          exact absurd H (by simp)
  case rest =>
    clear HC2
    try clear p2
    try clear c3
    try clear c3b0
    try clear c3b1
    try clear c4
    try clear c4b0
    try clear c4b1
    try clear c5
    try clear c5b0
    try clear c5b1
    try clear p6
    try clear q6
    try clear hx6
    try clear qi6
    try clear c7
    try clear c7b0
    try clear p8
    try clear q8
    try clear hx8
    try clear qi8
    try clear p6
    try clear p8
    try clear q6
    try clear q8
    obtain ⟨kq, x22_1, rfl, HA, HJ1, ⟨mc1, rfl⟩⟩ := hcut
    cases kq with
    | zero => exact absurd HA.out (by simp [term_Name.j0])
    | succ kj1 =>
      have H := HA.out
      clear HA
      simp only [term_Name.j0] at H
      by_cases c9 : x22_1 = true
      · subst c9
        have H1 : (some false) = some r := by rw [if_pos rfl] at H; exact H
        clear H
        have H := H1
        clear H1
        obtain rfl := Option.some.inj H
        go_wp2
        go_ret
        exact ⟨by first | rfl | (simp; done) | (simp [*]; done), by repeat (first | exact Drawn0.refl _ | apply Drawn0.step)⟩
      · replace c9 := Bool.eq_false_iff.mpr c9
        subst c9
        have H1 : (term_Name.l0 kj1 a0 (a0.size : Int) 0) = some r := by rw [if_neg (show ¬ (false = true) by decide)] at H; exact H
        clear H
        have H := H1
        clear H1
        have H' := Aside0.mk H
        clear H
        go_wp2
        go_loopg [25] kj1 (fun kq v25 w' => ∃ (x25_2 : Int), v25 = .int .i64 x25_2 ∧ Aside0 (term_Name.l0 kq a0 (a0.size : Int) x25_2 = some r) ∧ Aside0 (kq ≤ kj1) ∧ Drawn0 w w')
        case atStart => exact ⟨(0), (by first | rfl | (simp; done) | (simp [*]; done)), H', ⟨Nat.le_refl _⟩, by repeat (first | exact Drawn0.refl _ | apply Drawn0.step)⟩
        case round =>
          clear H'
          try clear c1
          try clear p2
          try clear c3
          try clear c3b0
          try clear c3b1
          try clear c4
          try clear c4b0
          try clear c4b1
          try clear c5
          try clear c5b0
          try clear c5b1
          try clear p6
          try clear q6
          try clear hx6
          try clear qi6
          try clear c7
          try clear c7b0
          try clear p8
          try clear q8
          try clear hx8
          try clear qi8
          try clear c9
          try clear p2
          try clear p6
          try clear p8
          try clear q6
          try clear q8
          obtain ⟨x25_2, rfl, HA, HK2, ⟨m2, rfl⟩⟩ := hrel
          cases gk with
          | zero => exact absurd HA.out (by simp [term_Name.l0])
          | succ k2 =>
            have H := HA.out
            clear HA
            simp only [term_Name.l0] at H
            by_cases c10 : x25_2 < (a0.size : Int)
            · rw [if_pos c10] at H
              have c10b0 : decide (x25_2 < (a0.size : Int)) = true := decide_eq_true c10
              clear c10
              by_cases c11 : 0 ≤ x25_2
              · rw [if_pos c11] at H
                have c11b0 : decide (0 ≤ x25_2) = true := decide_eq_true c11
                clear c11
                by_cases c12 : x25_2 < (a0.size : Int)
                · rw [if_pos c12] at H
                  have c12b0 : decide (x25_2 < (a0.size : Int)) = true := decide_eq_true c12
                  clear c12
                  by_cases c14 : (bt a0 x25_2) < 97
                  · rw [if_pos c14] at H
                    have c14b0 : decide ((bt a0 x25_2) < 97) = true := decide_eq_true c14
                    clear c14
                    by_cases c15 : (bt a0 x25_2) < 48
                    · rw [if_pos c15] at H
                      have c15b0 : decide ((bt a0 x25_2) < 48) = true := decide_eq_true c15
                      clear c15
                      by_cases c16 : (bt a0 x25_2) = 95
                      · rw [if_pos c16] at H
                        have c16b0 : ((bt a0 x25_2) == 95) = true := beq_iff_eq.mpr c16
                        have c16b1 : ((bt a0 x25_2) != 95) = false := bne_eq_false_iff_eq.mpr c16
                        clear c16
                        have H' := Aside0.mk H
                        clear H
                        have p13 : 0 ≤ (x25_2 : Int) := of_decide_eq_true (by first | (with_reducible assumption) | assumption)
                        have q13 : x25_2 < (a0.size : Int) := of_decide_eq_true (by first | (with_reducible assumption) | assumption)
                        have hx13 := bt_at a0 x25_2
                        replace p13 := eq_true p13
                        replace q13 := eq_true q13
                        go_wp2
                        go_roundg k2
                        case measure => have := HJ1.out; have := HK2.out; omega
                        case rel => exact ⟨(wrap64 (x25_2 + 1)), (by first | rfl | (simp; done) | (simp [*]; done)), H', ⟨by have := HJ1.out; have := HK2.out; omega⟩, by repeat (first | exact Drawn0.refl _ | apply Drawn0.step)⟩
                      · rw [if_neg c16] at H
                        have c16b0 : ((bt a0 x25_2) == 95) = false := beq_eq_false_iff_ne.mpr c16
                        have c16b1 : ((bt a0 x25_2) != 95) = true := bne_iff_ne.mpr c16
                        obtain rfl := Option.some.inj H
                        have p13 : 0 ≤ (x25_2 : Int) := of_decide_eq_true (by first | (with_reducible assumption) | assumption)
                        have q13 : x25_2 < (a0.size : Int) := of_decide_eq_true (by first | (with_reducible assumption) | assumption)
                        have hx13 := bt_at a0 x25_2
                        replace p13 := eq_true p13
                        replace q13 := eq_true q13
                        go_wp2
                        go_ret
                        exact ⟨by first | rfl | (simp; done) | (simp [*]; done), by repeat (first | exact Drawn0.refl _ | apply Drawn0.step)⟩
                    · rw [if_neg c15] at H
                      have c15b0 : decide ((bt a0 x25_2) < 48) = false := decide_eq_false c15
                      clear c15
                      by_cases c17 : (bt a0 x25_2) > 57
                      · rw [if_pos c17] at H
                        have c17b0 : decide (57 < (bt a0 x25_2)) = true := decide_eq_true c17
                        clear c17
                        by_cases c18 : (bt a0 x25_2) = 95
                        · rw [if_pos c18] at H
                          have c18b0 : ((bt a0 x25_2) == 95) = true := beq_iff_eq.mpr c18
                          have c18b1 : ((bt a0 x25_2) != 95) = false := bne_eq_false_iff_eq.mpr c18
                          clear c18
                          have H' := Aside0.mk H
                          clear H
                          have p13 : 0 ≤ (x25_2 : Int) := of_decide_eq_true (by first | (with_reducible assumption) | assumption)
                          have q13 : x25_2 < (a0.size : Int) := of_decide_eq_true (by first | (with_reducible assumption) | assumption)
                          have hx13 := bt_at a0 x25_2
                          replace p13 := eq_true p13
                          replace q13 := eq_true q13
                          go_wp2
                          go_roundg k2
                          case measure => have := HJ1.out; have := HK2.out; omega
                          case rel => exact ⟨(wrap64 (x25_2 + 1)), (by first | rfl | (simp; done) | (simp [*]; done)), H', ⟨by have := HJ1.out; have := HK2.out; omega⟩, by repeat (first | exact Drawn0.refl _ | apply Drawn0.step)⟩
                        · rw [if_neg c18] at H
                          have c18b0 : ((bt a0 x25_2) == 95) = false := beq_eq_false_iff_ne.mpr c18
                          have c18b1 : ((bt a0 x25_2) != 95) = true := bne_iff_ne.mpr c18
                          obtain rfl := Option.some.inj H
                          have p13 : 0 ≤ (x25_2 : Int) := of_decide_eq_true (by first | (with_reducible assumption) | assumption)
                          have q13 : x25_2 < (a0.size : Int) := of_decide_eq_true (by first | (with_reducible assumption) | assumption)
                          have hx13 := bt_at a0 x25_2
                          replace p13 := eq_true p13
                          replace q13 := eq_true q13
                          go_wp2
                          go_ret
                          exact ⟨by first | rfl | (simp; done) | (simp [*]; done), by repeat (first | exact Drawn0.refl _ | apply Drawn0.step)⟩
                      · rw [if_neg c17] at H
                        have c17b0 : decide (57 < (bt a0 x25_2)) = false := decide_eq_false c17
                        clear c17
                        have H' := Aside0.mk H
                        clear H
                        have p13 : 0 ≤ (x25_2 : Int) := of_decide_eq_true (by first | (with_reducible assumption) | assumption)
                        have q13 : x25_2 < (a0.size : Int) := of_decide_eq_true (by first | (with_reducible assumption) | assumption)
                        have hx13 := bt_at a0 x25_2
                        replace p13 := eq_true p13
                        replace q13 := eq_true q13
                        go_wp2
                        go_roundg k2
                        case measure => have := HJ1.out; have := HK2.out; omega
                        case rel => exact ⟨(wrap64 (x25_2 + 1)), (by first | rfl | (simp; done) | (simp [*]; done)), H', ⟨by have := HJ1.out; have := HK2.out; omega⟩, by repeat (first | exact Drawn0.refl _ | apply Drawn0.step)⟩
                  · rw [if_neg c14] at H
                    have c14b0 : decide ((bt a0 x25_2) < 97) = false := decide_eq_false c14
                    clear c14
                    by_cases c19 : (bt a0 x25_2) > 122
                    · rw [if_pos c19] at H
                      have c19b0 : decide (122 < (bt a0 x25_2)) = true := decide_eq_true c19
                      clear c19
                      by_cases c20 : (bt a0 x25_2) < 48
                      · rw [if_pos c20] at H
                        have c20b0 : decide ((bt a0 x25_2) < 48) = true := decide_eq_true c20
                        clear c20
                        by_cases c21 : (bt a0 x25_2) = 95
                        · rw [if_pos c21] at H
                          have c21b0 : ((bt a0 x25_2) == 95) = true := beq_iff_eq.mpr c21
                          have c21b1 : ((bt a0 x25_2) != 95) = false := bne_eq_false_iff_eq.mpr c21
                          clear c21
                          have H' := Aside0.mk H
                          clear H
                          have p13 : 0 ≤ (x25_2 : Int) := of_decide_eq_true (by first | (with_reducible assumption) | assumption)
                          have q13 : x25_2 < (a0.size : Int) := of_decide_eq_true (by first | (with_reducible assumption) | assumption)
                          have hx13 := bt_at a0 x25_2
                          replace p13 := eq_true p13
                          replace q13 := eq_true q13
                          go_wp2
                          go_roundg k2
                          case measure => have := HJ1.out; have := HK2.out; omega
                          case rel => exact ⟨(wrap64 (x25_2 + 1)), (by first | rfl | (simp; done) | (simp [*]; done)), H', ⟨by have := HJ1.out; have := HK2.out; omega⟩, by repeat (first | exact Drawn0.refl _ | apply Drawn0.step)⟩
                        · rw [if_neg c21] at H
                          have c21b0 : ((bt a0 x25_2) == 95) = false := beq_eq_false_iff_ne.mpr c21
                          have c21b1 : ((bt a0 x25_2) != 95) = true := bne_iff_ne.mpr c21
                          obtain rfl := Option.some.inj H
                          have p13 : 0 ≤ (x25_2 : Int) := of_decide_eq_true (by first | (with_reducible assumption) | assumption)
                          have q13 : x25_2 < (a0.size : Int) := of_decide_eq_true (by first | (with_reducible assumption) | assumption)
                          have hx13 := bt_at a0 x25_2
                          replace p13 := eq_true p13
                          replace q13 := eq_true q13
                          go_wp2
                          go_ret
                          exact ⟨by first | rfl | (simp; done) | (simp [*]; done), by repeat (first | exact Drawn0.refl _ | apply Drawn0.step)⟩
                      · rw [if_neg c20] at H
                        have c20b0 : decide ((bt a0 x25_2) < 48) = false := decide_eq_false c20
                        clear c20
                        by_cases c22 : (bt a0 x25_2) > 57
                        · rw [if_pos c22] at H
                          have c22b0 : decide (57 < (bt a0 x25_2)) = true := decide_eq_true c22
                          clear c22
                          by_cases c23 : (bt a0 x25_2) = 95
                          · rw [if_pos c23] at H
                            have c23b0 : ((bt a0 x25_2) == 95) = true := beq_iff_eq.mpr c23
                            have c23b1 : ((bt a0 x25_2) != 95) = false := bne_eq_false_iff_eq.mpr c23
                            clear c23
                            have H' := Aside0.mk H
                            clear H
                            have p13 : 0 ≤ (x25_2 : Int) := of_decide_eq_true (by first | (with_reducible assumption) | assumption)
                            have q13 : x25_2 < (a0.size : Int) := of_decide_eq_true (by first | (with_reducible assumption) | assumption)
                            have hx13 := bt_at a0 x25_2
                            replace p13 := eq_true p13
                            replace q13 := eq_true q13
                            go_wp2
                            go_roundg k2
                            case measure => have := HJ1.out; have := HK2.out; omega
                            case rel => exact ⟨(wrap64 (x25_2 + 1)), (by first | rfl | (simp; done) | (simp [*]; done)), H', ⟨by have := HJ1.out; have := HK2.out; omega⟩, by repeat (first | exact Drawn0.refl _ | apply Drawn0.step)⟩
                          · rw [if_neg c23] at H
                            have c23b0 : ((bt a0 x25_2) == 95) = false := beq_eq_false_iff_ne.mpr c23
                            have c23b1 : ((bt a0 x25_2) != 95) = true := bne_iff_ne.mpr c23
                            obtain rfl := Option.some.inj H
                            have p13 : 0 ≤ (x25_2 : Int) := of_decide_eq_true (by first | (with_reducible assumption) | assumption)
                            have q13 : x25_2 < (a0.size : Int) := of_decide_eq_true (by first | (with_reducible assumption) | assumption)
                            have hx13 := bt_at a0 x25_2
                            replace p13 := eq_true p13
                            replace q13 := eq_true q13
                            go_wp2
                            go_ret
                            exact ⟨by first | rfl | (simp; done) | (simp [*]; done), by repeat (first | exact Drawn0.refl _ | apply Drawn0.step)⟩
                        · rw [if_neg c22] at H
                          have c22b0 : decide (57 < (bt a0 x25_2)) = false := decide_eq_false c22
                          clear c22
                          have H' := Aside0.mk H
                          clear H
                          have p13 : 0 ≤ (x25_2 : Int) := of_decide_eq_true (by first | (with_reducible assumption) | assumption)
                          have q13 : x25_2 < (a0.size : Int) := of_decide_eq_true (by first | (with_reducible assumption) | assumption)
                          have hx13 := bt_at a0 x25_2
                          replace p13 := eq_true p13
                          replace q13 := eq_true q13
                          go_wp2
                          go_roundg k2
                          case measure => have := HJ1.out; have := HK2.out; omega
                          case rel => exact ⟨(wrap64 (x25_2 + 1)), (by first | rfl | (simp; done) | (simp [*]; done)), H', ⟨by have := HJ1.out; have := HK2.out; omega⟩, by repeat (first | exact Drawn0.refl _ | apply Drawn0.step)⟩
                    · rw [if_neg c19] at H
                      have c19b0 : decide (122 < (bt a0 x25_2)) = false := decide_eq_false c19
                      clear c19
                      have H' := Aside0.mk H
                      clear H
                      have p13 : 0 ≤ (x25_2 : Int) := of_decide_eq_true (by first | (with_reducible assumption) | assumption)
                      have q13 : x25_2 < (a0.size : Int) := of_decide_eq_true (by first | (with_reducible assumption) | assumption)
                      have hx13 := bt_at a0 x25_2
                      replace p13 := eq_true p13
                      replace q13 := eq_true q13
                      go_wp2
                      go_roundg k2
                      case measure => have := HJ1.out; have := HK2.out; omega
                      case rel => exact ⟨(wrap64 (x25_2 + 1)), (by first | rfl | (simp; done) | (simp [*]; done)), H', ⟨by have := HJ1.out; have := HK2.out; omega⟩, by repeat (first | exact Drawn0.refl _ | apply Drawn0.step)⟩
                · rw [if_neg c12] at H
                  exact absurd H (by simp)
              · rw [if_neg c11] at H
                exact absurd H (by simp)
            · rw [if_neg c10] at H
              have c10b0 : decide (x25_2 < (a0.size : Int)) = false := decide_eq_false c10
              clear c10
              obtain rfl := Option.some.inj H
              go_wp2
              go_ret
              exact ⟨by first | rfl | (simp; done) | (simp [*]; done), by repeat (first | exact Drawn0.refl _ | apply Drawn0.step)⟩
end Go.Proofs.YthflpbgloeimfaaGreatDoor.Q
namespace Go.Proofs.YthflpbgloeimfaaGreatDoor.H
open Go.RowKit Go.Proofs.YthflpbgloeimfaaGreatDoorW.PrintWords Go.Proofs.YthflpbgloeimfaaGreatDoorW.PrintLast Go.Proofs.YthflpbgloeimfaaGreatDoorW.PrintMore
open Go.Proofs.YthflpbgloeimfaaGreatDoor.Q (S47 k47 rd_T47 z47 S50 k50 rd_T50 z50 S52 k52 S71 k71)
set_option linter.unusedVariables false
theorem ev_next {α : Type} {g f : Nat → Option α} {r : α} (k : Ev f r) (h : ∀ k, g (k + 1) = f k) : Ev g r := Ev.step h k
theorem ev_end {α : Type} {g : Nat → Option α} {r : α} (h : ∀ k, g (k + 1) = some r) : Ev g r := Ev.step (f := fun _ => some r) h (Ev.now r)
theorem wrap_succ {i : Int} (h0 : 0 ≤ i) (h1 : i < 9223372036854775807) : wrap64 (i + 1) = i + 1 := by
  unfold wrap64; omega
theorem wr_id {x : Int} (h1 : -9223372036854775808 ≤ x) (h2 : x ≤ 9223372036854775807) : wrap64 x = x := by unfold wrap64; omega
mutual
def sN : S47 → Nat
  | ⟨l⟩ => sNL l + 1
def sNL : List S47 → Nat
  | [] => 0
  | t :: r => sN t + sNL r
end
mutual
def sD : S47 → Nat
  | ⟨l⟩ => sDL l + 1
def sDL : List S47 → Nat
  | [] => 0
  | t :: r => max (sD t) (sDL r)
end
mutual
def sF : S47 → Bool
  | ⟨l⟩ => sFL l && decide (l.length ≤ 8)
def sFL : List S47 → Bool
  | [] => true
  | t :: r => sF t && sFL r
end
mutual
def sO : S47 → Nat
  | ⟨l⟩ => sOL l
def sOL : List S47 → Nat
  | [] => 0
  | t :: r => max (sO t + 1) (sOL r)
end
mutual
def sE : S47 → S47 → Bool
  | ⟨l⟩, ⟨m⟩ => decide (l.length = m.length) && sEL l m
def sEL : List S47 → List S47 → Bool
  | [], _ => true
  | _ :: _, [] => false
  | a :: r, b :: s => sE a b && sEL r s
end
theorem sN_pos (t : S47) : 1 ≤ sN t := by cases t; rw [sN]; omega
theorem sN_mem {l : List S47} {t : S47} (h : t ∈ l) : sN t ≤ sNL l := by
  induction l with
  | nil => cases h
  | cons a r ih =>
    rw [sNL]
    rcases List.mem_cons.1 h with rfl | h
    · omega
    · have := ih h; omega
theorem sLen_le {l : List S47} : l.length ≤ sNL l := by
  induction l with
  | nil => simp
  | cons a r ih => rw [sNL, List.length_cons]; have := sN_pos a; omega
theorem sD_le_aux (n : Nat) : ∀ t : S47, sN t ≤ n → sD t ≤ sN t := by
  induction n with
  | zero => intro t h; have := sN_pos t; omega
  | succ n ih =>
    intro t h
    obtain ⟨l⟩ := t
    rw [sN] at h ⊢
    rw [sD]
    have : ∀ l : List S47, sNL l ≤ n → sDL l ≤ sNL l := by
      intro l
      induction l with
      | nil => intro _; simp [sDL]
      | cons a r ihr =>
        intro h
        rw [sNL] at h ⊢
        rw [sDL]
        have h1 := ih a (by omega)
        have h2 := ihr (by omega)
        omega
    have := this l (by omega)
    omega
theorem sD_le (t : S47) : sD t ≤ sN t := sD_le_aux _ t (Nat.le_refl _)
theorem sDL_le (l : List S47) : sDL l ≤ sNL l := by
  induction l with
  | nil => simp [sDL]
  | cons a r ih => rw [sDL, sNL]; have := sD_le a; omega
theorem sO_le_aux (n : Nat) : ∀ t : S47, sN t ≤ n → sO t ≤ sN t := by
  induction n with
  | zero => intro t h; have := sN_pos t; omega
  | succ n ih =>
    intro t h
    obtain ⟨l⟩ := t
    rw [sN] at h ⊢
    rw [sO]
    have : ∀ l : List S47, sNL l ≤ n → sOL l ≤ sNL l + 1 := by
      intro l
      induction l with
      | nil => intro _; simp [sOL]
      | cons a r ihr =>
        intro h
        rw [sNL] at h ⊢
        rw [sOL]
        have h1 := ih a (by omega)
        have h2 := ihr (by omega)
        omega
    exact this l (by omega)
theorem sO_le (t : S47) : sO t ≤ sN t := sO_le_aux _ t (Nat.le_refl _)
theorem sNL_snoc (a : List S47) (x : S47) : sNL (a ++ [x]) = sNL a + sN x := by
  induction a with
  | nil => simp [sNL]
  | cons y r ih => rw [List.cons_append, sNL, sNL, ih]; omega
theorem sDL_snoc (a : List S47) (x : S47) : sDL (a ++ [x]) = max (sDL a) (sD x) := by
  induction a with
  | nil => simp [sDL]
  | cons y r ih => rw [List.cons_append, sDL, sDL, ih]; omega
theorem sOL_snoc (a : List S47) (x : S47) : sOL (a ++ [x]) = max (sOL a) (sO x + 1) := by
  induction a with
  | nil => simp [sOL]
  | cons y r ih => rw [List.cons_append, sOL, sOL, ih]; omega
theorem takeS {α : Type} {l : List α} {j : Nat} (h : j < l.length) : l.take (j + 1) = l.take j ++ [l[j]] := by rw [List.take_add_one, List.getElem?_eq_getElem h]; rfl
theorem dropS {α : Type} {l : List α} {j : Nat} (h : j < l.length) : l.drop j = l[j] :: l.drop (j + 1) := (List.drop_eq_getElem_cons h)
theorem sNL_take (l : List S47) (j : Nat) : sNL (l.take j) ≤ sNL l := by
  induction l generalizing j with
  | nil => simp
  | cons a r ih =>
    cases j with
    | zero => simp [sNL]
    | succ j => rw [List.take_succ_cons, sNL, sNL]; have := ih j; omega
theorem rdS_at {l : List S47} {j : Nat} (h : j < l.length) : rd_T47 l (j : Int) = l[j] := by simp [rd_T47, List.getD_eq_getElem?_getD, List.getElem?_eq_getElem h]
theorem sE_iff_aux (n : Nat) : ∀ a b : S47, sN a ≤ n → (sE a b = true ↔ a = b) := by
  induction n with
  | zero => intro t _ h; have := sN_pos t; omega
  | succ n ih =>
    intro a b h
    obtain ⟨l⟩ := a
    obtain ⟨m⟩ := b
    rw [sN] at h
    have key : ∀ l m : List S47, sNL l ≤ n → l.length = m.length → (sEL l m = true ↔ l = m) := by
      intro l
      induction l with
      | nil => intro m _ hl; cases m with
        | nil => simp [sEL]
        | cons => simp at hl
      | cons a r ihr =>
        intro m h hl
        cases m with
        | nil => simp at hl
        | cons b s =>
          rw [sNL] at h
          rw [sEL, Bool.and_eq_true, ih a b (by omega), ihr s (by omega) (by simpa using hl)]
          simp
    rw [sE, Bool.and_eq_true, decide_eq_true_eq, S47.mk.injEq]
    constructor
    · rintro ⟨h1, h2⟩; exact (key l m (by omega) h1).1 h2
    · rintro rfl; exact ⟨rfl, (key l l (by omega) rfl).2 rfl⟩
theorem sE_iff {a b : S47} : sE a b = true ↔ a = b := sE_iff_aux _ a b (Nat.le_refl _)
def srtB (s : S47) : Bool := decide (sN s ≤ 60) && decide (sD s ≤ 30) && sF s
theorem nodes_ev (N : Nat) : ∀ t : S47, sN t ≤ N → ∀ m : Nat, m ≤ 1000000 → Ev (fun k => Q.virgationref01_Nodes.f k t.f0 (m : Int)) ((min (sN t) (m + 1) : Nat) : Int) := by
  induction N with
  | zero => intro t h; have := sN_pos t; omega
  | succ N ih =>
    intro t h m hm
    obtain ⟨l⟩ := t
    rw [sN] at h ⊢
    have loop : ∀ d j : Nat, l.length - j = d → j ≤ l.length → j ≤ m + 1 → Ev (fun k => Q.virgationref01_Nodes.l0 k (m : Int) ((min (sNL (l.take j) + 1) (m + 1) : Nat) : Int) (j : Int) l) ((min (sNL l + 1) (m + 1) : Nat) : Int) := by
      intro d
      induction d with
      | zero =>
        intro j hd hj hjm
        rw [show l.take j = l from List.take_of_length_le (by omega)]
        refine ev_end fun k => ?_
        simp only [Q.virgationref01_Nodes.l0]
        rw [if_neg (by omega)]
      | succ d ihd =>
        intro j hd hj hjm
        have hlt : j < l.length := by omega
        by_cases hn : sNL (l.take j) + 1 ≤ m
        · have hmin : min (sNL (l.take j) + 1) (m + 1) = sNL (l.take j) + 1 := by omega
          have hlen : j ≤ sNL (l.take j) := by have := sLen_le (l := l.take j); rw [List.length_take] at this; omega
          have e1 := ih l[j] (by have := sN_mem (List.getElem_mem hlt); omega) (m - (sNL (l.take j) + 1)) (by omega)
          have e2 := ihd (j + 1) (by omega) (by omega) (by omega)
          have hz1 : ((m - (sNL (l.take j) + 1) : Nat) : Int) = wrap64 ((m : Int) - ((sNL (l.take j) + 1 : Nat) : Int)) := by rw [wr_id (by omega) (by omega)]; omega
          have hz2 : ((min (sNL (l.take (j + 1)) + 1) (m + 1) : Nat) : Int) = wrap64 (((sNL (l.take j) + 1 : Nat) : Int) + ((min (sN l[j]) (m - (sNL (l.take j) + 1) + 1) : Nat) : Int)) := by
            rw [takeS hlt, sNL_snoc, wr_id (by omega) (by omega)]; omega
          rw [hz1] at e1
          rw [hz2, show ((j + 1 : Nat) : Int) = wrap64 ((j : Int) + 1) from (wrap_succ (i := (j : Int)) (by omega) (by omega)).symm] at e2
          rw [hmin]
          refine ev_next (Ev.bind (f := fun k t => Q.virgationref01_Nodes.l0 k (m : Int) (wrap64 (((sNL (l.take j) + 1 : Nat) : Int) + t)) (wrap64 ((j : Int) + 1)) l) e1 e2) fun k => ?_
          simp only [Q.virgationref01_Nodes.l0]
          rw [if_pos (by omega), if_pos (by omega), if_pos (by omega), rdS_at hlt]
        · have h1 := sNL_take l j
          refine ev_end fun k => ?_
          simp only [Q.virgationref01_Nodes.l0]
          rw [if_pos (by omega), if_neg (by omega)]
          congr 1; omega
    have e := loop l.length 0 (by omega) (by omega) (by omega)
    rw [List.take_zero, sNL] at e
    refine ev_next e fun k => ?_
    simp only [Q.virgationref01_Nodes.f]
    rw [show ((min (0 + 1) (m + 1) : Nat) : Int) = 1 by omega]; rfl
theorem mx_nat (a b : Nat) : mx (a : Int) (b : Int) = ((max a b : Nat) : Int) := by unfold mx; split <;> omega
theorem depth_ev (N : Nat) : ∀ t : S47, sN t ≤ N → N ≤ 1000000 → Ev (fun k => Q.virgationref01_depth.f k t.f0) (sD t : Int) := by
  induction N with
  | zero => intro t h; have := sN_pos t; omega
  | succ N ih =>
    intro t h hN
    obtain ⟨l⟩ := t
    rw [sN] at h
    have hll := sLen_le (l := l)
    have loop : ∀ d j : Nat, l.length - j = d → j ≤ l.length → Ev (fun k => Q.virgationref01_depth.l0 k (sDL (l.take j) : Int) l (l.length : Int) (j : Int)) ((sDL l + 1 : Nat) : Int) := by
      intro d
      induction d with
      | zero =>
        intro j hd hj
        rw [show l.take j = l from List.take_of_length_le (by omega)]
        have := sDL_le l
        refine ev_end fun k => ?_
        simp only [Q.virgationref01_depth.l0]
        rw [if_neg (by omega), wrap_succ (by omega) (by omega)]; rfl
      | succ d ihd =>
        intro j hd hj
        have hlt : j < l.length := by omega
        have e1 := ih l[j] (by have := sN_mem (List.getElem_mem hlt); omega) (by omega)
        have e2 := ihd (j + 1) (by omega) (by omega)
        rw [show ((j + 1 : Nat) : Int) = wrap64 ((j : Int) + 1) from (wrap_succ (i := (j : Int)) (by omega) (by omega)).symm, takeS hlt, sDL_snoc, ← mx_nat] at e2
        refine ev_next (Ev.bind (f := fun k t => Q.virgationref01_depth.l0 k (mx (sDL (l.take j) : Int) t) l (l.length : Int) (wrap64 ((j : Int) + 1))) e1 e2) fun k => ?_
        simp only [Q.virgationref01_depth.l0]
        rw [if_pos (by omega), if_pos (by omega), if_pos (by omega), rdS_at hlt]
    have e := loop l.length 0 (by omega) (by omega)
    rw [List.take_zero, sDL] at e
    rw [sD]
    exact ev_next e fun k => by simp only [Q.virgationref01_depth.f]; rfl
theorem few_ev (N : Nat) : ∀ t : S47, sN t ≤ N → N ≤ 1000000 → Ev (fun k => Q.virgationref01_few.f k t.f0) (sF t) := by
  induction N with
  | zero => intro t h; have := sN_pos t; omega
  | succ N ih =>
    intro t h hN
    obtain ⟨l⟩ := t
    rw [sN] at h
    have hll := sLen_le (l := l)
    have loop : ∀ d j : Nat, l.length - j = d → j ≤ l.length → Ev (fun k => Q.virgationref01_few.l0 k l (l.length : Int) (j : Int) l) (sFL (l.drop j) && decide (l.length ≤ 8)) := by
      intro d
      induction d with
      | zero =>
        intro j hd hj
        refine ev_end fun k => ?_
        simp only [Q.virgationref01_few.l0]
        rw [if_neg (by omega), List.drop_eq_nil_of_le (by omega), sFL, Bool.true_and]
        congr 1
        exact decide_eq_decide.2 (by omega)
      | succ d ihd =>
        intro j hd hj
        have hlt : j < l.length := by omega
        rw [dropS hlt, sFL]
        have e1 := ih l[j] (by have := sN_mem (List.getElem_mem hlt); omega) (by omega)
        have e2 := ihd (j + 1) (by omega) (by omega)
        rw [show ((j + 1 : Nat) : Int) = wrap64 ((j : Int) + 1) from (wrap_succ (i := (j : Int)) (by omega) (by omega)).symm] at e2
        refine ev_next (Ev.bind (f := fun k t => if t = true then Q.virgationref01_few.l0 k l (l.length : Int) (wrap64 ((j : Int) + 1)) l else some false) e1 ?_) fun k => ?_
        · cases sF l[j] with
          | true => simpa using e2
          | false => simpa using Ev.now false
        · simp only [Q.virgationref01_few.l0]
          rw [if_pos (by omega), if_pos (by omega), if_pos (by omega), rdS_at hlt]
    have e := loop l.length 0 (by omega) (by omega)
    rw [List.drop_zero] at e
    rw [sF]
    exact ev_next e fun k => by simp only [Q.virgationref01_few.f]; rfl
theorem is_ev (t : S47) : Ev (fun k => Q.virgationref01_Is.f k t.f0) (srtB t) := by
  have e1 := nodes_ev (sN t) t (Nat.le_refl _) 60 (by omega)
  refine Ev.congr (fun k => by unfold Q.virgationref01_Is.f; rfl) (Ev.bind (f := fun k t197 => if t197 ≤ 60 then ((Q.virgationref01_depth.f k t.f0).bind fun t198 => (if t198 ≤ 30 then ((Q.virgationref01_few.f k t.f0).bind fun t199 => (some t199)) else (some false))) else (some false)) e1 ?_)
  unfold srtB
  by_cases h : sN t ≤ 60
  · have h1 : ((min (sN t) (60 + 1) : Nat) : Int) ≤ 60 := by omega
    simp only [if_pos h1, decide_eq_true h, Bool.true_and]
    refine Ev.bind (f := fun k t198 => if t198 ≤ 30 then ((Q.virgationref01_few.f k t.f0).bind fun t199 => (some t199)) else (some false)) (depth_ev 60 t h (by omega)) ?_
    by_cases h2 : sD t ≤ 30
    · have h3 : (sD t : Int) ≤ 30 := by omega
      simp only [if_pos h3, decide_eq_true h2, Bool.true_and]
      exact Ev.bind (f := fun _ t199 => some t199) (few_ev 60 t h (by omega)) (Ev.now _)
    · have h3 : ¬ (sD t : Int) ≤ 30 := by omega
      simp only [if_neg h3, decide_eq_false h2, Bool.false_and]
      exact Ev.now _
  · have h1 : ¬ ((min (sN t) (60 + 1) : Nat) : Int) ≤ 60 := by omega
    simp only [if_neg h1, decide_eq_false h, Bool.false_and]
    exact Ev.now _
theorem sEL_drop {l m : List S47} {j : Nat} (h1 : j < l.length) (h2 : j < m.length) : sEL (l.drop j) (m.drop j) = (sE l[j] m[j] && sEL (l.drop (j + 1)) (m.drop (j + 1))) := by
  rw [dropS h1, dropS h2, sEL]
theorem equal_ev (N : Nat) : ∀ a b : S47, sN a ≤ N → N ≤ 1000000 → Ev (fun k => Q.virgationref01_Equal.f k a.f0 b.f0) (sE a b) := by
  induction N with
  | zero => intro t _ h; have := sN_pos t; omega
  | succ N ih =>
    intro a b h hN
    obtain ⟨l⟩ := a
    obtain ⟨m⟩ := b
    rw [sN] at h
    have hll := sLen_le (l := l)
    rw [sE]
    by_cases hl : l.length = m.length
    · rw [decide_eq_true hl, Bool.true_and]
      have loop : ∀ d j : Nat, l.length - j = d → j ≤ l.length → Ev (fun k => Q.virgationref01_Equal.l0 k (l.length : Int) (j : Int) l m) (sEL (l.drop j) (m.drop j)) := by
        intro d
        induction d with
        | zero =>
          intro j hd hj
          refine ev_end fun k => ?_
          simp only [Q.virgationref01_Equal.l0]
          rw [if_neg (by omega), List.drop_eq_nil_of_le (by omega), sEL]
        | succ d ihd =>
          intro j hd hj
          have hlt : j < l.length := by omega
          have hlt2 : j < m.length := by omega
          rw [sEL_drop hlt hlt2]
          have e1 := ih l[j] m[j] (by have := sN_mem (List.getElem_mem hlt); omega) (by omega)
          have e2 := ihd (j + 1) (by omega) (by omega)
          rw [show ((j + 1 : Nat) : Int) = wrap64 ((j : Int) + 1) from (wrap_succ (i := (j : Int)) (by omega) (by omega)).symm] at e2
          refine ev_next (Ev.bind (f := fun k t => if t = true then Q.virgationref01_Equal.l0 k (l.length : Int) (wrap64 ((j : Int) + 1)) l m else some false) e1 ?_) fun k => ?_
          · cases sE l[j] m[j] with
            | true => simpa using e2
            | false => simpa using Ev.now false
          · simp only [Q.virgationref01_Equal.l0]
            rw [if_pos (by omega), if_pos (by omega), if_pos (by omega), if_pos (by omega), rdS_at hlt, rdS_at hlt2]
      have e := loop l.length 0 (by omega) (by omega)
      rw [List.drop_zero, List.drop_zero] at e
      exact ev_next e fun k => by simp only [Q.virgationref01_Equal.f]; rw [if_pos (by omega)]; rfl
    · rw [decide_eq_false hl, Bool.false_and]
      exact ev_end fun k => by simp only [Q.virgationref01_Equal.f]; rw [if_neg (by omega)]
theorem same_ev (N : Nat) : ∀ a b : S47, sN a ≤ N → N ≤ 1000000 → Ev (fun k => Q.sorts_same.f k a.f0 b.f0) (sE a b) := by
  induction N with
  | zero => intro t _ h; have := sN_pos t; omega
  | succ N ih =>
    intro a b h hN
    obtain ⟨l⟩ := a
    obtain ⟨m⟩ := b
    rw [sN] at h
    have hll := sLen_le (l := l)
    rw [sE]
    by_cases hl : l.length = m.length
    · rw [decide_eq_true hl, Bool.true_and]
      have loop : ∀ d j : Nat, l.length - j = d → j ≤ l.length → Ev (fun k => Q.sorts_same.l0 k (l.length : Int) (j : Int) l m) (sEL (l.drop j) (m.drop j)) := by
        intro d
        induction d with
        | zero =>
          intro j hd hj
          refine ev_end fun k => ?_
          simp only [Q.sorts_same.l0]
          rw [if_neg (by omega), List.drop_eq_nil_of_le (by omega), sEL]
        | succ d ihd =>
          intro j hd hj
          have hlt : j < l.length := by omega
          have hlt2 : j < m.length := by omega
          rw [sEL_drop hlt hlt2]
          have e1 := ih l[j] m[j] (by have := sN_mem (List.getElem_mem hlt); omega) (by omega)
          have e2 := ihd (j + 1) (by omega) (by omega)
          rw [show ((j + 1 : Nat) : Int) = wrap64 ((j : Int) + 1) from (wrap_succ (i := (j : Int)) (by omega) (by omega)).symm] at e2
          refine ev_next (Ev.bind (f := fun k t => if t = true then Q.sorts_same.l0 k (l.length : Int) (wrap64 ((j : Int) + 1)) l m else some false) e1 ?_) fun k => ?_
          · cases sE l[j] m[j] with
            | true => simpa using e2
            | false => simpa using Ev.now false
          · simp only [Q.sorts_same.l0]
            rw [if_pos (by omega), if_pos (by omega), if_pos (by omega), if_pos (by omega), rdS_at hlt, rdS_at hlt2]
      have e := loop l.length 0 (by omega) (by omega)
      rw [List.drop_zero, List.drop_zero] at e
      exact ev_next e fun k => by simp only [Q.sorts_same.f]; rw [if_pos (by omega)]; rfl
    · rw [decide_eq_false hl, Bool.false_and]
      exact ev_end fun k => by simp only [Q.sorts_same.f]; rw [if_neg (by omega)]
theorem order_ev (N : Nat) : ∀ t : S47, sN t ≤ N → N ≤ 1000000 → Ev (fun k => Q.sorts_order.f k t.f0) (sO t : Int) := by
  induction N with
  | zero => intro t h; have := sN_pos t; omega
  | succ N ih =>
    intro t h hN
    obtain ⟨l⟩ := t
    rw [sN] at h
    have hll := sLen_le (l := l)
    have loop : ∀ d j : Nat, l.length - j = d → j ≤ l.length → Ev (fun k => Q.sorts_order.l0 k (sOL (l.take j) : Int) l (l.length : Int) (j : Int)) (sOL l : Int) := by
      intro d
      induction d with
      | zero =>
        intro j hd hj
        rw [show l.take j = l from List.take_of_length_le (by omega)]
        refine ev_end fun k => ?_
        simp only [Q.sorts_order.l0]
        rw [if_neg (by omega)]
      | succ d ihd =>
        intro j hd hj
        have hlt : j < l.length := by omega
        have hm := sN_mem (List.getElem_mem hlt)
        have e1 := ih l[j] (by omega) (by omega)
        have e2 := ihd (j + 1) (by omega) (by omega)
        have ho := sO_le l[j]
        rw [show ((j + 1 : Nat) : Int) = wrap64 ((j : Int) + 1) from (wrap_succ (i := (j : Int)) (by omega) (by omega)).symm, takeS hlt, sOL_snoc, ← mx_nat, show ((sO l[j] + 1 : Nat) : Int) = wrap64 ((sO l[j] : Int) + 1) by rw [wr_id (by omega) (by omega)]; omega] at e2
        refine ev_next (Ev.bind (f := fun k t => Q.sorts_order.l0 k (mx (sOL (l.take j) : Int) (wrap64 (t + 1))) l (l.length : Int) (wrap64 ((j : Int) + 1))) e1 e2) fun k => ?_
        simp only [Q.sorts_order.l0]
        rw [if_pos (by omega), if_pos (by omega), if_pos (by omega), rdS_at hlt]
    have e := loop l.length 0 (by omega) (by omega)
    rw [List.take_zero, sOL] at e
    rw [sO]
    exact ev_next e fun k => by simp only [Q.sorts_order.f]; rfl
end Go.Proofs.YthflpbgloeimfaaGreatDoor.H
namespace Go.Proofs.YthflpbgloeimfaaGreatDoor.H
open Go.RowKit Go.Proofs.YthflpbgloeimfaaGreatDoorW.PrintWords Go.Proofs.YthflpbgloeimfaaGreatDoorW.PrintLast Go.Proofs.YthflpbgloeimfaaGreatDoorW.PrintMore
open Go.Proofs.YthflpbgloeimfaaGreatDoor.Q (S47 k47 rd_T47 z47 S50 k50 rd_T50 z50 S52 k52 S71 k71 rd_T71)
set_option linter.unusedVariables false
mutual
def tN : S50 → Nat
  | ⟨_, _, l⟩ => tNL l + 1
def tNL : List S50 → Nat
  | [] => 0
  | t :: r => tN t + tNL r
end
mutual
def tD : S50 → Nat
  | ⟨_, _, l⟩ => tDL l + 1
def tDL : List S50 → Nat
  | [] => 0
  | t :: r => max (tD t) (tDL r)
end
theorem tN_pos (t : S50) : 1 ≤ tN t := by cases t; rw [tN]; omega
theorem tN_mem {l : List S50} {t : S50} (h : t ∈ l) : tN t ≤ tNL l := by
  induction l with
  | nil => cases h
  | cons a r ih =>
    rw [tNL]
    rcases List.mem_cons.1 h with rfl | h
    · omega
    · have := ih h; omega
theorem tLen_le {l : List S50} : l.length ≤ tNL l := by
  induction l with
  | nil => simp
  | cons a r ih => rw [tNL, List.length_cons]; have := tN_pos a; omega
theorem tD_le_aux (n : Nat) : ∀ t : S50, tN t ≤ n → tD t ≤ tN t := by
  induction n with
  | zero => intro t h; have := tN_pos t; omega
  | succ n ih =>
    intro t h
    obtain ⟨x, y, l⟩ := t
    rw [tN] at h ⊢
    rw [tD]
    have : ∀ l : List S50, tNL l ≤ n → tDL l ≤ tNL l := by
      intro l
      induction l with
      | nil => intro _; simp [tDL]
      | cons a r ihr =>
        intro h
        rw [tNL] at h ⊢
        rw [tDL]
        have h1 := ih a (by omega)
        have h2 := ihr (by omega)
        omega
    have := this l (by omega)
    omega
theorem tD_le (t : S50) : tD t ≤ tN t := tD_le_aux _ t (Nat.le_refl _)
theorem tDL_le (l : List S50) : tDL l ≤ tNL l := by
  induction l with
  | nil => simp [tDL]
  | cons a r ih => rw [tDL, tNL]; have := tD_le a; omega
theorem tNL_snoc (a : List S50) (x : S50) : tNL (a ++ [x]) = tNL a + tN x := by
  induction a with
  | nil => simp [tNL]
  | cons y r ih => rw [List.cons_append, tNL, tNL, ih]; omega
theorem tDL_snoc (a : List S50) (x : S50) : tDL (a ++ [x]) = max (tDL a) (tD x) := by
  induction a with
  | nil => simp [tDL]
  | cons y r ih => rw [List.cons_append, tDL, tDL, ih]; omega
theorem tNL_take (l : List S50) (j : Nat) : tNL (l.take j) ≤ tNL l := by
  induction l generalizing j with
  | nil => simp
  | cons a r ih =>
    cases j with
    | zero => simp [tNL]
    | succ j => rw [List.take_succ_cons, tNL, tNL]; have := ih j; omega
theorem rdT_at {l : List S50} {j : Nat} (h : j < l.length) : rd_T50 l (j : Int) = l[j] := by simp [rd_T50, List.getD_eq_getElem?_getD, List.getElem?_eq_getElem h]
theorem tnodes_ev (N : Nat) : ∀ t : S50, tN t ≤ N → ∀ m : Nat, m ≤ 1000000 → Ev (fun k => Q.virgationref02_Nodes.f k t.f0 t.f1 t.f2 (m : Int)) ((min (tN t) (m + 1) : Nat) : Int) := by
  induction N with
  | zero => intro t h; have := tN_pos t; omega
  | succ N ih =>
    intro t h m hm
    obtain ⟨x, y, l⟩ := t
    rw [tN] at h ⊢
    have loop : ∀ d j : Nat, l.length - j = d → j ≤ l.length → j ≤ m + 1 → Ev (fun k => Q.virgationref02_Nodes.l0 k (m : Int) ((min (tNL (l.take j) + 1) (m + 1) : Nat) : Int) (j : Int) x y l) ((min (tNL l + 1) (m + 1) : Nat) : Int) := by
      intro d
      induction d with
      | zero =>
        intro j hd hj hjm
        rw [show l.take j = l from List.take_of_length_le (by omega)]
        refine ev_end fun k => ?_
        simp only [Q.virgationref02_Nodes.l0]
        rw [if_neg (by omega)]
      | succ d ihd =>
        intro j hd hj hjm
        have hlt : j < l.length := by omega
        by_cases hn : tNL (l.take j) + 1 ≤ m
        · have hmin : min (tNL (l.take j) + 1) (m + 1) = tNL (l.take j) + 1 := by omega
          have hlen : j ≤ tNL (l.take j) := by have := tLen_le (l := l.take j); rw [List.length_take] at this; omega
          have e1 := ih l[j] (by have := tN_mem (List.getElem_mem hlt); omega) (m - (tNL (l.take j) + 1)) (by omega)
          have e2 := ihd (j + 1) (by omega) (by omega) (by omega)
          have hz1 : ((m - (tNL (l.take j) + 1) : Nat) : Int) = wrap64 ((m : Int) - ((tNL (l.take j) + 1 : Nat) : Int)) := by rw [wr_id (by omega) (by omega)]; omega
          have hz2 : ((min (tNL (l.take (j + 1)) + 1) (m + 1) : Nat) : Int) = wrap64 (((tNL (l.take j) + 1 : Nat) : Int) + ((min (tN l[j]) (m - (tNL (l.take j) + 1) + 1) : Nat) : Int)) := by
            rw [takeS hlt, tNL_snoc, wr_id (by omega) (by omega)]; omega
          rw [hz1] at e1
          rw [hz2, show ((j + 1 : Nat) : Int) = wrap64 ((j : Int) + 1) from (wrap_succ (i := (j : Int)) (by omega) (by omega)).symm] at e2
          rw [hmin]
          refine ev_next (Ev.bind (f := fun k t => Q.virgationref02_Nodes.l0 k (m : Int) (wrap64 (((tNL (l.take j) + 1 : Nat) : Int) + t)) (wrap64 ((j : Int) + 1)) x y l) e1 e2) fun k => ?_
          simp only [Q.virgationref02_Nodes.l0]
          rw [if_pos (by omega), if_pos (by omega), if_pos (by omega), rdT_at hlt]
        · have h1 := tNL_take l j
          refine ev_end fun k => ?_
          simp only [Q.virgationref02_Nodes.l0]
          rw [if_pos (by omega), if_neg (by omega)]
          congr 1; omega
    have e := loop l.length 0 (by omega) (by omega) (by omega)
    rw [List.take_zero, tNL] at e
    refine ev_next e fun k => ?_
    simp only [Q.virgationref02_Nodes.f]
    rw [show ((min (0 + 1) (m + 1) : Nat) : Int) = 1 by omega]; rfl
theorem tdepth_ev (N : Nat) : ∀ t : S50, tN t ≤ N → N ≤ 1000000 → Ev (fun k => Q.virgationref02_Depth.f k t.f0 t.f1 t.f2) (tD t : Int) := by
  induction N with
  | zero => intro t h; have := tN_pos t; omega
  | succ N ih =>
    intro t h hN
    obtain ⟨x, y, l⟩ := t
    rw [tN] at h
    have hll := tLen_le (l := l)
    have loop : ∀ d j : Nat, l.length - j = d → j ≤ l.length → Ev (fun k => Q.virgationref02_Depth.l0 k (tDL (l.take j) : Int) l (l.length : Int) (j : Int)) ((tDL l + 1 : Nat) : Int) := by
      intro d
      induction d with
      | zero =>
        intro j hd hj
        rw [show l.take j = l from List.take_of_length_le (by omega)]
        have := tDL_le l
        refine ev_end fun k => ?_
        simp only [Q.virgationref02_Depth.l0]
        rw [if_neg (by omega), wrap_succ (by omega) (by omega)]; rfl
      | succ d ihd =>
        intro j hd hj
        have hlt : j < l.length := by omega
        have e1 := ih l[j] (by have := tN_mem (List.getElem_mem hlt); omega) (by omega)
        have e2 := ihd (j + 1) (by omega) (by omega)
        rw [show ((j + 1 : Nat) : Int) = wrap64 ((j : Int) + 1) from (wrap_succ (i := (j : Int)) (by omega) (by omega)).symm, takeS hlt, tDL_snoc, ← mx_nat] at e2
        refine ev_next (Ev.bind (f := fun k t => Q.virgationref02_Depth.l0 k (mx (tDL (l.take j) : Int) t) l (l.length : Int) (wrap64 ((j : Int) + 1))) e1 e2) fun k => ?_
        simp only [Q.virgationref02_Depth.l0]
        rw [if_pos (by omega), if_pos (by omega), if_pos (by omega), rdT_at hlt]
    have e := loop l.length 0 (by omega) (by omega)
    rw [List.take_zero, tDL] at e
    rw [tD]
    exact ev_next e fun k => by simp only [Q.virgationref02_Depth.f]; rfl
def wch (c : UInt8) : Bool := (decide (97 ≤ c.toNat) && decide (c.toNat ≤ 122)) || (decide (48 ≤ c.toNat) && decide (c.toNat ≤ 57)) || decide (c.toNat = 95)
def lch (c : UInt8) : Bool := decide (97 ≤ c.toNat) && decide (c.toNat ≤ 122)
def nameL (l : List UInt8) : Bool := decide (1 ≤ l.length) && decide (l.length ≤ 24) && lch (l.headD 0) && l.all wch
def nameB (s : ByteArray) : Bool := nameL s.data.toList
theorem size_list (s : ByteArray) : s.size = s.data.toList.length := rfl
theorem bt_list {s : ByteArray} {i : Nat} (h : i < s.data.toList.length) : bt s (i : Int) = ((s.data.toList[i].toNat : Nat) : Int) := by
  have h2 : (i : Int).toNat < s.size := by rw [Int.toNat_natCast]; exact h
  rw [← bt_at s (i : Int) h2]
  simp only [Int.toNat_natCast]
  rfl
theorem headD_at {l : List UInt8} (h : 0 < l.length) : l[0] = l.headD 0 := by
  cases l with
  | nil => simp at h
  | cons a r => rfl
theorem name_loop_aux {b : Int} {c : UInt8} (h : b = ((c.toNat : Nat) : Int)) {α : Type} (x y : α) : (if b < 97 then (if b < 48 then (if b = 95 then x else y) else (if b > 57 then (if b = 95 then x else y) else x)) else (if b > 122 then (if b < 48 then (if b = 95 then x else y) else (if b > 57 then (if b = 95 then x else y) else x)) else x)) = if wch c = true then x else y := by
  unfold wch
  simp only [Bool.or_eq_true, Bool.and_eq_true, decide_eq_true_eq]
  subst h
  repeat' split
  all_goals first | rfl | (exfalso; omega)
theorem tname_ev (s : ByteArray) : Ev (fun k => Q.term_Name.f k s) (nameB s) := by
  have hno : Ev (fun k => Q.term_Name.j0 k s true) false := ev_end fun k => by simp [Q.term_Name.j0]
  by_cases h0 : s.data.toList.length = 0
  · unfold nameB nameL
    rw [decide_eq_false (by omega)]
    simp only [Bool.false_and]
    exact Ev.congr (fun k => by unfold Q.term_Name.f; rw [if_pos (by rw [size_list]; omega)]) hno
  by_cases h1 : s.data.toList.length ≤ 24
  case neg =>
    unfold nameB nameL
    rw [decide_eq_false h1]
    simp only [Bool.false_and, Bool.and_false]
    exact Ev.congr (fun k => by unfold Q.term_Name.f; rw [if_neg (by rw [size_list]; omega), if_pos (by rw [size_list]; omega)]) hno
  have hb : bt s 0 = (((s.data.toList.headD 0).toNat : Nat) : Int) := by
    have h2 : 0 < s.data.toList.length := by omega
    have := bt_list (s := s) (i := 0) h2
    rw [show ((0 : Nat) : Int) = 0 from rfl] at this
    rw [this, headD_at h2]
  have hj : Ev (fun k => Q.term_Name.f k s) (nameB s) ↔ Ev (fun k => Q.term_Name.j0 k s (!lch (s.data.toList.headD 0))) (nameB s) := by
    have : (fun k => Q.term_Name.f k s) = fun k => Q.term_Name.j0 k s (!lch (s.data.toList.headD 0)) := by
      funext k
      unfold Q.term_Name.f
      rw [if_neg (by rw [size_list]; omega), if_neg (by rw [size_list]; omega), if_pos (by rw [size_list]; omega), hb]
      unfold lch
      by_cases hg : ((s.data.toList.headD 0).toNat : Int) < 97
      · rw [if_pos hg, decide_eq_false (show ¬ 97 ≤ (s.data.toList.headD 0).toNat by omega)]; rfl
      · rw [if_neg hg, decide_eq_true (show 97 ≤ (s.data.toList.headD 0).toNat by omega), Bool.true_and]
        by_cases hh : (s.data.toList.headD 0).toNat ≤ 122
        · rw [decide_eq_true hh, decide_eq_false (show ¬ ((s.data.toList.headD 0).toNat : Int) > 122 by omega)]; rfl
        · rw [decide_eq_false hh, decide_eq_true (show ((s.data.toList.headD 0).toNat : Int) > 122 by omega)]; rfl
    rw [this]
  rw [hj]
  unfold nameB nameL
  rw [decide_eq_true (by omega : 1 ≤ s.data.toList.length), decide_eq_true h1, Bool.true_and, Bool.true_and]
  cases hl : lch (s.data.toList.headD 0) with
  | false => simpa using hno
  | true =>
    rw [Bool.true_and]
    have loop : ∀ d j : Nat, s.data.toList.length - j = d → j ≤ s.data.toList.length → Ev (fun k => Q.term_Name.l0 k s (s.size : Int) (j : Int)) ((s.data.toList.drop j).all wch) := by
      intro d
      induction d with
      | zero =>
        intro j hd hj
        refine ev_end fun k => ?_
        simp only [Q.term_Name.l0]
        rw [if_neg (by rw [size_list]; omega), List.drop_eq_nil_of_le (by omega)]; rfl
      | succ d ihd =>
        intro j hd hj
        have hlt : j < s.data.toList.length := by omega
        have e2 := ihd (j + 1) (by omega) (by omega)
        rw [show ((j + 1 : Nat) : Int) = wrap64 ((j : Int) + 1) from (wrap_succ (i := (j : Int)) (by omega) (by omega)).symm] at e2
        rw [dropS hlt, List.all_cons]
        refine ev_next (f := fun k => if wch s.data.toList[j] = true then Q.term_Name.l0 k s (s.size : Int) (wrap64 ((j : Int) + 1)) else some false) ?_ fun k => ?_
        · cases wch s.data.toList[j] with
          | true => simpa using e2
          | false => simpa using Ev.now false
        · simp only [Q.term_Name.l0]
          rw [if_pos (by rw [size_list]; omega), if_pos (by omega), if_pos (by rw [size_list]; omega)]
          exact name_loop_aux (bt_list hlt) _ _
    have e := loop s.data.toList.length 0 (by omega) (by omega)
    rw [List.drop_zero] at e
    exact ev_next e fun k => by simp [Q.term_Name.j0]
theorem rname_ev (s : ByteArray) : Ev (fun k => Q.virgationref02_Name.f k s) (nameB s) := by
  have hno : Ev (fun k => Q.virgationref02_Name.j0 k s true) false := ev_end fun k => by simp [Q.virgationref02_Name.j0]
  by_cases h0 : s.data.toList.length = 0
  · unfold nameB nameL
    rw [decide_eq_false (by omega)]
    simp only [Bool.false_and]
    exact Ev.congr (fun k => by unfold Q.virgationref02_Name.f; rw [if_pos (by rw [size_list]; omega)]) hno
  by_cases h1 : s.data.toList.length ≤ 24
  case neg =>
    unfold nameB nameL
    rw [decide_eq_false h1]
    simp only [Bool.false_and, Bool.and_false]
    exact Ev.congr (fun k => by unfold Q.virgationref02_Name.f; rw [if_neg (by rw [size_list]; omega), if_pos (by rw [size_list]; omega)]) hno
  have hb : bt s 0 = (((s.data.toList.headD 0).toNat : Nat) : Int) := by
    have h2 : 0 < s.data.toList.length := by omega
    have := bt_list (s := s) (i := 0) h2
    rw [show ((0 : Nat) : Int) = 0 from rfl] at this
    rw [this, headD_at h2]
  have hj : Ev (fun k => Q.virgationref02_Name.f k s) (nameB s) ↔ Ev (fun k => Q.virgationref02_Name.j0 k s (!lch (s.data.toList.headD 0))) (nameB s) := by
    have : (fun k => Q.virgationref02_Name.f k s) = fun k => Q.virgationref02_Name.j0 k s (!lch (s.data.toList.headD 0)) := by
      funext k
      unfold Q.virgationref02_Name.f
      rw [if_neg (by rw [size_list]; omega), if_neg (by rw [size_list]; omega), if_pos (by rw [size_list]; omega), hb]
      unfold lch
      by_cases hg : ((s.data.toList.headD 0).toNat : Int) < 97
      · rw [if_pos hg, decide_eq_false (show ¬ 97 ≤ (s.data.toList.headD 0).toNat by omega)]; rfl
      · rw [if_neg hg, decide_eq_true (show 97 ≤ (s.data.toList.headD 0).toNat by omega), Bool.true_and]
        by_cases hh : (s.data.toList.headD 0).toNat ≤ 122
        · rw [decide_eq_true hh, decide_eq_false (show ¬ ((s.data.toList.headD 0).toNat : Int) > 122 by omega)]; rfl
        · rw [decide_eq_false hh, decide_eq_true (show ((s.data.toList.headD 0).toNat : Int) > 122 by omega)]; rfl
    rw [this]
  rw [hj]
  unfold nameB nameL
  rw [decide_eq_true (by omega : 1 ≤ s.data.toList.length), decide_eq_true h1, Bool.true_and, Bool.true_and]
  cases hl : lch (s.data.toList.headD 0) with
  | false => simpa using hno
  | true =>
    rw [Bool.true_and]
    have loop : ∀ d j : Nat, s.data.toList.length - j = d → j ≤ s.data.toList.length → Ev (fun k => Q.virgationref02_Name.l0 k s (j : Int)) ((s.data.toList.drop j).all wch) := by
      intro d
      induction d with
      | zero =>
        intro j hd hj
        refine ev_end fun k => ?_
        simp only [Q.virgationref02_Name.l0]
        rw [if_neg (by rw [size_list]; omega), List.drop_eq_nil_of_le (by omega)]; rfl
      | succ d ihd =>
        intro j hd hj
        have hlt : j < s.data.toList.length := by omega
        have e2 := ihd (j + 1) (by omega) (by omega)
        rw [show ((j + 1 : Nat) : Int) = wrap64 ((j : Int) + 1) from (wrap_succ (i := (j : Int)) (by omega) (by omega)).symm] at e2
        rw [dropS hlt, List.all_cons]
        refine ev_next (f := fun k => if wch s.data.toList[j] = true then Q.virgationref02_Name.l0 k s (wrap64 ((j : Int) + 1)) else some false) ?_ fun k => ?_
        · cases wch s.data.toList[j] with
          | true => simpa using e2
          | false => simpa using Ev.now false
        · simp only [Q.virgationref02_Name.l0]
          rw [if_pos (by rw [size_list]; omega), if_pos (by omega)]
          exact name_loop_aux (bt_list hlt) _ _
    have e := loop s.data.toList.length 0 (by omega) (by omega)
    rw [List.drop_zero] at e
    exact ev_next e fun k => by simp [Q.virgationref02_Name.j0]
end Go.Proofs.YthflpbgloeimfaaGreatDoor.H
namespace Go.Proofs.YthflpbgloeimfaaGreatDoor.H
open Go.RowKit Go.Proofs.YthflpbgloeimfaaGreatDoorW.PrintWords Go.Proofs.YthflpbgloeimfaaGreatDoorW.PrintLast Go.Proofs.YthflpbgloeimfaaGreatDoorW.PrintMore
open Go.Proofs.YthflpbgloeimfaaGreatDoor.Q (S47 k47 rd_T47 z47 at_T47 S50 k50 rd_T50 z50 at_T50 S52 k52 S71 k71 rd_T71)
attribute [local go_sem] max2_int min2_int max_two min_two max_three min_three max_four min_four
set_option linter.unusedVariables false
theorem blk_at2 (w : World) (o o' : Obj) : ((w.alloc o).alloc o').heap[w.heap.size + 1]? = some o' := by
  have h := blk_new (w.alloc o) o'
  rwa [show (w.alloc o).heap.size = w.heap.size + 1 from by simp] at h
theorem grown_setCell (W : World) (p : Addr) (u : Value) : W.grownBy (W.setCell p u) (some p.block) :=
  ⟨rfl, rfl, rfl, by simp [World.setCell], fun i _ hne => Below.heap_setCell W p u i (fun e => hne (by rw [e]))⟩
theorem gtrans {W W1 W2 : World} {row : Option Nat} (h : W.grownBy W1 row) (h2 : W1.grownBy W2 row) : W.grownBy W2 row := ⟨h2.os.trans h.os, h2.tape.trans h.tape, h2.output.trans h.output, Nat.le_trans h.size h2.size, fun i hi hne => (h2.block i (Nat.lt_of_lt_of_le hi h.size) hne).trans (h.block i hi hne)⟩
theorem below_of_grown {w W W1 : World} {p : Nat} (h : Below w.heap.size w W) (hp : w.heap.size ≤ p) (hg : W.grownBy W1 (some p)) : Below w.heap.size w W1 := pw_below_grown h (some p) h.size hg (fun k hk => by cases hk; exact hp)
def sMeas (t : S47) (p : Nat) (left : Int) (W : World) (E : Ending) (W' : World) : Prop := ∃ d lv : Int, E = .returned (.int .i64 d) ∧ W'.heap[p]? = some (.cells #[.int .i64 lv] 3 (0, 0)) ∧ ((sN t : Int) ≤ left → d = (sD t : Int) ∧ lv = left - sN t) ∧ (¬ (sN t : Int) ≤ left → lv < 0) ∧ -1 ≤ lv ∧ W.grownBy W' (some p)
set_option maxHeartbeats 4000000 in
set_option maxRecDepth 100000 in
theorem smeas_calls (w0 : World) (p : Nat) (hp : w0.heap.size ≤ p) (N : Nat) : ∀ (t : S47), sN t ≤ N → ∀ (A : Option Addr) (c : Nat) (left : Int) (W : World), Kd.C k47 w0 A t.f0.length t.f0 → t.f0.length ≤ c → Below w0.heap.size w0 W → W.heap[p]? = some (.cells #[.int .i64 left] 3 (0, 0)) → 0 ≤ left → left ≤ 60 →
    Calls Tryz.prog 120 #[.agg #[.slice A t.f0.length c], .pointer (some ⟨p, 0, none⟩)] W (sMeas t p left W) := by
  induction N with
  | zero => intro t h; have := sN_pos t; omega
  | succ N ih =>
    intro t hN A c left W hC hc hB hP hl0 hl2
    obtain ⟨l⟩ := t
    rw [sN] at hN
    have hpW := blk_lt hP
    have HLEN := Aside0.mk hC.2.1
    have HC := Aside0.mk hC
    have IH := Aside0.mk ih
    have HG1 := Aside0.mk (World.grownBy_alloc W (.cells #[.slice A l.length c] 47) (some p))
    have HP1 := Aside0.mk (blk_alloc hP (.cells #[.slice A l.length c] 47))
    have HX1 := Aside0.mk (blk_new W (.cells #[.slice A l.length c] 47))
    have HB0 := Aside0.mk hB
    have HD := Aside0.mk (show sNL l ≤ N ∧ 0 ≤ left ∧ left ≤ 60 from ⟨by omega, hl0, hl2⟩)
    have hq0 : (W.alloc (.cells #[.slice A l.length c] 47)).cell? ⟨p, 0, none⟩ = some (.int .i64 left) := (blk_cell HP1.out 0).trans rfl
    have hq1 : (W.alloc (.cells #[.slice A l.length c] 47)).frozen? ⟨p, 0, none⟩ = false := blk_frozen HP1.out 0
    clear hC ih hP hB hN hl0 hl2
    go_enter Tryz.func120, Tryz.ntmps120
    go_upto_region 1 with (fail)
    generalize (W.alloc (.cells #[.slice A l.length c] 47)) = W1 at *
    go_upto_region 2 with (fail)
    rw [wr_id (x := left - 1) (by have := HD.out; omega) (by have := HD.out; omega)]
    have hnp : W.heap.size ≠ p := by omega
    have HG2 := Aside0.mk (gtrans HG1.out (grown_setCell W1 ⟨p, 0, none⟩ (.int .i64 (left - 1))))
    have HP2 := Aside0.mk (show (W1.setCell ⟨p, 0, none⟩ (.int .i64 (left - 1))).heap[p]? = some (.cells #[.int .i64 (left - 1)] 3 (0, 0)) from blk_set HP1.out 0 (.int .i64 (left - 1)))
    have HX2 := Aside0.mk (blk_far (p := ⟨p, 0, none⟩) HX1.out hnp (.int .i64 (left - 1)))
    clear hq0 hq1 HG1 HP1 HX1
    generalize (W1.setCell ⟨p, 0, none⟩ (.int .i64 (left - 1))) = W2 at *
    have hb0 : W2.cell? ⟨W.heap.size, 0, none⟩ = some (.slice A l.length c) := (blk_cell HX2.out 0).trans rfl
    go_wp2
    clear hb0
    go_loopg [5, 16] l.length (fun gg v5 v16 wi => ∃ (m lv : Int) (j : Nat), j ≤ l.length ∧ l.length - j ≤ gg ∧ v5 = .int .i64 m ∧ v16 = .int .i64 j ∧ Aside0 (W.grownBy wi (some p)) ∧ Aside0 (wi.heap[p]? = some (.cells #[.int .i64 lv] 3 (0, 0))) ∧
      Aside0 ((1 + (sNL (l.take j) : Int) ≤ left → m = (sDL (l.take j) : Int) ∧ lv = left - 1 - sNL (l.take j)) ∧ (¬ 1 + (sNL (l.take j) : Int) ≤ left → lv < 0) ∧ -1 ≤ lv ∧ lv ≤ 60))
    case atStart => exact ⟨0, left - 1, 0, by omega, by omega, rfl, rfl, HG2, HP2, ⟨fun _ => ⟨by rw [List.take_zero, sDL]; rfl, by rw [List.take_zero, sNL]; simp⟩, fun h => by rw [List.take_zero, sNL] at h; simp at h; omega, by have := HD.out; omega, by have := HD.out; omega⟩⟩
    case round =>
      clear HG2 HP2 HX2
      obtain ⟨m, lv, j, hj, hgg, rfl, rfl, HG, HP, HM⟩ := hrel
      by_cases hlt : j < l.length
      · have hltz : (j : Int) < (l.length : Int) := by omega
        have HBr := Aside0.mk (pw_below_grown HB0.out (some p) (HB0.out).size HG.out (fun k hk => by cases hk; exact hp))
        obtain ⟨ad, A1, c1, e, hx0, hl1, hC1⟩ := at_T47 HC.out (j : Int) (by omega) hltz
        subst e
        rw [rdS_at hlt] at hx0 hl1 hC1
        rw [Int.toNat_natCast] at hx0
        replace hx0 := ((HBr.out).cell (World.block_lt_of_cell? w0 _ hx0)).trans hx0
        have HJ := Aside0.mk (show sNL (l.take (j + 1)) = sNL (l.take j) + sN l[j] ∧ sDL (l.take (j + 1)) = max (sDL (l.take j)) (sD l[j]) ∧ sNL (l.take (j + 1)) ≤ sNL l ∧ sNL (l.take j) ≤ sNL l ∧ 1 ≤ sN l[j] from ⟨by rw [takeS hlt, sNL_snoc], by rw [takeS hlt, sDL_snoc], sNL_take l _, sNL_take l _, sN_pos _⟩)
        generalize l[j] = u at *
        have HC1 := Aside0.mk hC1
        have HL1 := Aside0.mk hl1
        clear hC1 hl1
        go_upto_region 6 with (fail)
        have HG5 := Aside0.mk (gtrans HG.out (World.grownBy_alloc wr (.cells #[.slice A1 u.f0.length c1] 47) (some p)))
        have HP5 := Aside0.mk (blk_alloc HP.out (.cells #[.slice A1 u.f0.length c1] 47))
        have HX5 := Aside0.mk (blk_new wr (.cells #[.slice A1 u.f0.length c1] 47))
        clear HG HP hx0
        generalize (wr.alloc (.cells #[.slice A1 u.f0.length c1] 47)) = w5 at *
        generalize wr.heap.size = b7 at *
        have hb0 : w5.cell? ⟨b7, 0, none⟩ = some (.slice A1 u.f0.length c1) := (blk_cell HX5.out 0).trans rfl
        have hq0 : w5.cell? ⟨p, 0, none⟩ = some (.int .i64 lv) := (blk_cell HP5.out 0).trans rfl
        have HB5 := Aside0.mk (pw_below_grown HB0.out (some p) (HB0.out).size HG5.out (fun k hk => by cases hk; exact hp))
        by_cases hneg : lv < 0
        · have HNG := Aside0.mk hneg
          go_wp2
          go_ret
          refine ⟨0, lv, rfl, HP5.out, fun h => ?_, fun _ => HNG.out, (HM.out).2.2.1, HG5.out⟩
          rw [sN] at h
          have := HNG.out
          have h1 := HM.out
          have h2 := HJ.out
          exact absurd (h1.1 (by omega)).2 (by omega)
        · have HNG := Aside0.mk hneg
          go_wp2_with fail
          refine (IH.out u (by have := HD.out; have := HJ.out; omega) A1 c1 lv w5 HC1.out HL1.out HB5.out HP5.out (by have := HNG.out; omega) (HM.out).2.2.2).mono ?_
          rintro E w6 ⟨d, lv2, rfl, hP6, hx1, hx2, hx3, hG6⟩
          have HP6 := Aside0.mk hP6
          have HG6 := Aside0.mk (gtrans HG5.out hG6)
          have HXX := Aside0.mk (And.intro hx1 (And.intro hx2 hx3))
          clear hP6 hG6 hb0 hq0 HP5 HG5 HX5 HB5 hx1 hx2 hx3 hneg
          have HR := Aside0.mk (show ∀ v : Int, v = (if m < d then d else m) → (1 + (sNL (l.take (j + 1)) : Int) ≤ left → v = (sDL (l.take (j + 1)) : Int) ∧ lv2 = left - 1 - sNL (l.take (j + 1))) ∧ (¬ 1 + (sNL (l.take (j + 1)) : Int) ≤ left → lv2 < 0) ∧ -1 ≤ lv2 ∧ lv2 ≤ 60 from fun v hv => by
            obtain ⟨x1, x2, x3⟩ := HXX.out
            obtain ⟨y1, y2, y3, y4⟩ := HM.out
            obtain ⟨z1, z2, z3, z4, z5⟩ := HJ.out
            have hn := HNG.out
            have hd := HD.out
            have hex : 1 + (sNL (l.take j) : Int) ≤ left := Classical.byContradiction fun h => by have := y2 (by omega); omega
            obtain ⟨e1, e2⟩ := y1 hex
            refine ⟨fun h => ?_, fun h => x2 (by omega), x3, ?_⟩
            · obtain ⟨f1, f2⟩ := x1 (by omega)
              refine ⟨?_, by omega⟩
              rw [hv, z2, e1, f1]
              split <;> omega
            · by_cases hc : (sN u : Int) ≤ lv
              · have := (x1 hc).2; omega
              · have := x2 hc; omega)
          by_cases hmx : m < d
          · go_wp2
            go_roundg (l.length - (j + 1))
            case measure => omega
            case rel => exact ⟨d, lv2, j + 1, by omega, by omega, rfl, by rw [wrap_succ (by omega) (by have := HLEN.out; omega)]; rfl, HG6, HP6, ⟨HR.out d (by rw [if_pos hmx])⟩⟩
          · go_wp2
            go_roundg (l.length - (j + 1))
            case measure => omega
            case rel => exact ⟨m, lv2, j + 1, by omega, by omega, rfl, by rw [wrap_succ (by omega) (by have := HLEN.out; omega)]; rfl, HG6, HP6, ⟨HR.out m (by rw [if_neg (by omega)])⟩⟩
      · have hltz : ¬ (j : Int) < (l.length : Int) := by omega
        have hje : j = l.length := by omega
        have hm := sDL_le l
        subst hje
        rw [List.take_length] at HM
        go_wp2
        go_ret
        refine ⟨wrap64 (m + 1), lv, rfl, HP.out, fun h => ?_, fun h => ?_, (HM.out).2.2.1, HG.out⟩
        · rw [sN] at h ⊢
          rw [sD]
          obtain ⟨e1, e2⟩ := (HM.out).1 (by omega)
          have := HD.out
          rw [e1, wr_id (by omega) (by omega)]
          exact ⟨by omega, by omega⟩
        · rw [sN] at h
          exact (HM.out).2.1 (by omega)
def ssizeV (t : S47) : Int × Int := if sN t ≤ 60 then ((sN t : Int), (sD t : Int)) else (61, 0)
set_option maxHeartbeats 2000000 in
theorem ssize_calls (t : S47) (A : Option Addr) (c : Nat) (w : World) (hC : Kd.C k47 w A t.f0.length t.f0) (hc : t.f0.length ≤ c) :
    Calls Tryz.prog 91 #[.agg #[.slice A t.f0.length c]] w fun E w' => E = .returned (.tuple #[.int .i64 (ssizeV t).1, .int .i64 (ssizeV t).2]) ∧ Below w.heap.size w w' := by
  have HM := Aside0.mk (smeas_calls w (w.heap.size + 1) (Nat.le_succ _) _ t (Nat.le_refl _) A c 60 ((w.alloc (.cells #[.slice A t.f0.length c] 47)).alloc (.cells #[.int .i64 60] 3)) hC hc (below_alloc (below_alloc (Below.refl _ _) _) _) (blk_at2 w _ _) (by omega) (by omega))
  have HB := Aside0.mk (show Below w.heap.size w ((w.alloc (.cells #[.slice A t.f0.length c] 47)).alloc (.cells #[.int .i64 60] 3)) from below_alloc (below_alloc (Below.refl _ _) _) _)
  have HX := Aside0.mk (blk_alloc (blk_new w (.cells #[.slice A t.f0.length c] 47)) (.cells #[.int .i64 60] 3))
  clear hC hc
  go_enter Tryz.func91, Tryz.ntmps91
  go_upto_region 2 with (fail)
  generalize ((w.alloc (.cells #[.slice A t.f0.length c] 47)).alloc (.cells #[.int .i64 60] 3)) = W1 at *
  have hb0 : W1.cell? ⟨w.heap.size, 0, none⟩ = some (.slice A t.f0.length c) := (blk_cell HX.out 0).trans rfl
  go_wp2_with fail
  refine (HM.out).mono ?_
  rintro E w2 ⟨d, lv, rfl, hP, hx1, hx2, hx3, hG⟩
  have HB2 := Aside0.mk (below_of_grown HB.out (Nat.le_succ _) hG)
  have hq : w2.cell? ⟨w.heap.size + 1, 0, none⟩ = some (.int .i64 lv) := (blk_cell hP 0).trans rfl
  have HXX := Aside0.mk (And.intro hx1 (And.intro hx2 hx3))
  clear hG hP hb0 HM HX HB hx1 hx2 hx3
  by_cases hn : sN t ≤ 60
  · obtain ⟨rfl, e2⟩ := (HXX.out).1 (by omega)
    have hneg : ¬ lv < 0 := by omega
    have HE := Aside0.mk (show ssizeV t = ((sN t : Int), (sD t : Int)) from if_pos hn)
    have HL := Aside0.mk (show 60 - lv = (sN t : Int) by omega)
    have HLV := Aside0.mk (show 0 ≤ lv ∧ lv ≤ 60 by omega)
    clear e2 hn
    go_wp2
    go_ret2
    refine ⟨?_, HB2.out⟩
    rw [HE.out]
    first
      | (rw [HL.out]; rfl)
      | (rw [wr_id (x := 60 - lv) (by have := HLV.out; omega) (by have := HLV.out; omega), HL.out]; rfl)
  · have hneg : lv < 0 := (HXX.out).2.1 (by omega)
    have HE := Aside0.mk (show ssizeV t = (61, 0) from if_neg hn)
    clear hn
    go_wp2
    go_ret2
    exact ⟨by rw [HE.out]; rfl, HB2.out⟩
def tMeas (t : S50) (p : Nat) (left : Int) (W : World) (E : Ending) (W' : World) : Prop := ∃ d lv : Int, E = .returned (.int .i64 d) ∧ W'.heap[p]? = some (.cells #[.int .i64 lv] 3 (0, 0)) ∧ ((tN t : Int) ≤ left → d = (tD t : Int) ∧ lv = left - tN t) ∧ (¬ (tN t : Int) ≤ left → lv < 0) ∧ -1 ≤ lv ∧ W.grownBy W' (some p)
set_option maxHeartbeats 4000000 in
set_option maxRecDepth 100000 in
theorem tmeas_calls (w0 : World) (p : Nat) (hp : w0.heap.size ≤ p) (N : Nat) : ∀ (t : S50), tN t ≤ N → ∀ (A : Option Addr) (c : Nat) (left : Int) (W : World), Kd.C k50 w0 A t.f2.length t.f2 → t.f2.length ≤ c → Below w0.heap.size w0 W → W.heap[p]? = some (.cells #[.int .i64 left] 3 (0, 0)) → 0 ≤ left → left ≤ 100000 →
    Calls Tryz.prog 94 #[.agg #[.int .i64 t.f0, .int .i64 t.f1, .slice A t.f2.length c], .pointer (some ⟨p, 0, none⟩)] W (tMeas t p left W) := by
  induction N with
  | zero => intro t h; have := tN_pos t; omega
  | succ N ih =>
    intro t hN A c left W hC hc hB hP hl0 hl2
    obtain ⟨x, y, l⟩ := t
    rw [tN] at hN
    have hpW := blk_lt hP
    have HLEN := Aside0.mk hC.2.1
    have HC := Aside0.mk hC
    have IH := Aside0.mk ih
    have HG1 := Aside0.mk (World.grownBy_alloc W (.cells #[.int .i64 x, .int .i64 y, .slice A l.length c] 50) (some p))
    have HP1 := Aside0.mk (blk_alloc hP (.cells #[.int .i64 x, .int .i64 y, .slice A l.length c] 50))
    have HX1 := Aside0.mk (blk_new W (.cells #[.int .i64 x, .int .i64 y, .slice A l.length c] 50))
    have HB0 := Aside0.mk hB
    have HD := Aside0.mk (show tNL l ≤ N ∧ 0 ≤ left ∧ left ≤ 100000 from ⟨by omega, hl0, hl2⟩)
    have hq0 : (W.alloc (.cells #[.int .i64 x, .int .i64 y, .slice A l.length c] 50)).cell? ⟨p, 0, none⟩ = some (.int .i64 left) := (blk_cell HP1.out 0).trans rfl
    have hq1 : (W.alloc (.cells #[.int .i64 x, .int .i64 y, .slice A l.length c] 50)).frozen? ⟨p, 0, none⟩ = false := blk_frozen HP1.out 0
    clear hC ih hP hB hN hl0 hl2
    go_enter Tryz.func94, Tryz.ntmps94
    go_upto_region 1 with (fail)
    generalize (W.alloc (.cells #[.int .i64 x, .int .i64 y, .slice A l.length c] 50)) = W1 at *
    go_upto_region 2 with (fail)
    rw [wr_id (x := left - 1) (by have := HD.out; omega) (by have := HD.out; omega)]
    have hnp : W.heap.size ≠ p := by omega
    have HG2 := Aside0.mk (gtrans HG1.out (grown_setCell W1 ⟨p, 0, none⟩ (.int .i64 (left - 1))))
    have HP2 := Aside0.mk (show (W1.setCell ⟨p, 0, none⟩ (.int .i64 (left - 1))).heap[p]? = some (.cells #[.int .i64 (left - 1)] 3 (0, 0)) from blk_set HP1.out 0 (.int .i64 (left - 1)))
    have HX2 := Aside0.mk (blk_far (p := ⟨p, 0, none⟩) HX1.out hnp (.int .i64 (left - 1)))
    clear hq0 hq1 HG1 HP1 HX1
    generalize (W1.setCell ⟨p, 0, none⟩ (.int .i64 (left - 1))) = W2 at *
    have hb2 : W2.cell? ⟨W.heap.size, 2, none⟩ = some (.slice A l.length c) := (blk_cell HX2.out 2).trans rfl
    go_wp2
    clear hb2
    go_loopg [5, 16] l.length (fun gg v5 v16 wi => ∃ (m lv : Int) (j : Nat), j ≤ l.length ∧ l.length - j ≤ gg ∧ v5 = .int .i64 m ∧ v16 = .int .i64 j ∧ Aside0 (W.grownBy wi (some p)) ∧ Aside0 (wi.heap[p]? = some (.cells #[.int .i64 lv] 3 (0, 0))) ∧
      Aside0 ((1 + (tNL (l.take j) : Int) ≤ left → m = (tDL (l.take j) : Int) ∧ lv = left - 1 - tNL (l.take j)) ∧ (¬ 1 + (tNL (l.take j) : Int) ≤ left → lv < 0) ∧ -1 ≤ lv ∧ lv ≤ 100000))
    case atStart => exact ⟨0, left - 1, 0, by omega, by omega, rfl, rfl, HG2, HP2, ⟨fun _ => ⟨by rw [List.take_zero, tDL]; rfl, by rw [List.take_zero, tNL]; simp⟩, fun h => by rw [List.take_zero, tNL] at h; simp at h; omega, by have := HD.out; omega, by have := HD.out; omega⟩⟩
    case round =>
      clear HG2 HP2 HX2
      obtain ⟨m, lv, j, hj, hgg, rfl, rfl, HG, HP, HM⟩ := hrel
      by_cases hlt : j < l.length
      · have hltz : (j : Int) < (l.length : Int) := by omega
        have HBr := Aside0.mk (pw_below_grown HB0.out (some p) (HB0.out).size HG.out (fun k hk => by cases hk; exact hp))
        obtain ⟨ad, A1, c1, e, hx0, hx1, hx2, hl1, hC1⟩ := at_T50 HC.out (j : Int) (by omega) hltz
        subst e
        rw [rdT_at hlt] at hx0 hx1 hx2 hl1 hC1
        rw [Int.toNat_natCast] at hx0 hx1 hx2
        replace hx0 := ((HBr.out).cell (World.block_lt_of_cell? w0 _ hx0)).trans hx0
        replace hx1 := ((HBr.out).cell (World.block_lt_of_cell? w0 _ hx1)).trans hx1
        replace hx2 := ((HBr.out).cell (World.block_lt_of_cell? w0 _ hx2)).trans hx2
        have HJ := Aside0.mk (show tNL (l.take (j + 1)) = tNL (l.take j) + tN l[j] ∧ tDL (l.take (j + 1)) = max (tDL (l.take j)) (tD l[j]) ∧ tNL (l.take (j + 1)) ≤ tNL l ∧ tNL (l.take j) ≤ tNL l ∧ 1 ≤ tN l[j] from ⟨by rw [takeS hlt, tNL_snoc], by rw [takeS hlt, tDL_snoc], tNL_take l _, tNL_take l _, tN_pos _⟩)
        generalize l[j] = u at *
        have HC1 := Aside0.mk hC1
        have HL1 := Aside0.mk hl1
        clear hC1 hl1
        go_upto_region 6 with (fail)
        have HG5 := Aside0.mk (gtrans HG.out (World.grownBy_alloc wr (.cells #[.int .i64 u.f0, .int .i64 u.f1, .slice A1 u.f2.length c1] 50) (some p)))
        have HP5 := Aside0.mk (blk_alloc HP.out (.cells #[.int .i64 u.f0, .int .i64 u.f1, .slice A1 u.f2.length c1] 50))
        have HX5 := Aside0.mk (blk_new wr (.cells #[.int .i64 u.f0, .int .i64 u.f1, .slice A1 u.f2.length c1] 50))
        clear HG HP hx0 hx1 hx2
        generalize (wr.alloc (.cells #[.int .i64 u.f0, .int .i64 u.f1, .slice A1 u.f2.length c1] 50)) = w5 at *
        generalize wr.heap.size = b7 at *
        have hb0 : w5.cell? ⟨b7, 0, none⟩ = some (.int .i64 u.f0) := (blk_cell HX5.out 0).trans rfl
        have hb1 : w5.cell? ⟨b7, 1, none⟩ = some (.int .i64 u.f1) := (blk_cell HX5.out 1).trans rfl
        have hb2 : w5.cell? ⟨b7, 2, none⟩ = some (.slice A1 u.f2.length c1) := (blk_cell HX5.out 2).trans rfl
        have hq0 : w5.cell? ⟨p, 0, none⟩ = some (.int .i64 lv) := (blk_cell HP5.out 0).trans rfl
        have HB5 := Aside0.mk (pw_below_grown HB0.out (some p) (HB0.out).size HG5.out (fun k hk => by cases hk; exact hp))
        by_cases hneg : lv < 0
        · have HNG := Aside0.mk hneg
          go_wp2
          go_ret
          refine ⟨0, lv, rfl, HP5.out, fun h => ?_, fun _ => HNG.out, (HM.out).2.2.1, HG5.out⟩
          rw [tN] at h
          have := HNG.out
          have h1 := HM.out
          have h2 := HJ.out
          exact absurd (h1.1 (by omega)).2 (by omega)
        · have HNG := Aside0.mk hneg
          go_wp2_with fail
          refine (IH.out u (by have := HD.out; have := HJ.out; omega) A1 c1 lv w5 HC1.out HL1.out HB5.out HP5.out (by have := HNG.out; omega) (HM.out).2.2.2).mono ?_
          rintro E w6 ⟨d, lv2, rfl, hP6, hx1, hx2, hx3, hG6⟩
          have HP6 := Aside0.mk hP6
          have HG6 := Aside0.mk (gtrans HG5.out hG6)
          have HXX := Aside0.mk (And.intro hx1 (And.intro hx2 hx3))
          clear hP6 hG6 hb0 hb1 hb2 hq0 HP5 HG5 HX5 HB5 hx1 hx2 hx3 hneg
          have HR := Aside0.mk (show ∀ v : Int, v = (if m < d then d else m) → (1 + (tNL (l.take (j + 1)) : Int) ≤ left → v = (tDL (l.take (j + 1)) : Int) ∧ lv2 = left - 1 - tNL (l.take (j + 1))) ∧ (¬ 1 + (tNL (l.take (j + 1)) : Int) ≤ left → lv2 < 0) ∧ -1 ≤ lv2 ∧ lv2 ≤ 100000 from fun v hv => by
            obtain ⟨x1, x2, x3⟩ := HXX.out
            obtain ⟨y1, y2, y3, y4⟩ := HM.out
            obtain ⟨z1, z2, z3, z4, z5⟩ := HJ.out
            have hn := HNG.out
            have hd := HD.out
            have hex : 1 + (tNL (l.take j) : Int) ≤ left := Classical.byContradiction fun h => by have := y2 (by omega); omega
            obtain ⟨e1, e2⟩ := y1 hex
            refine ⟨fun h => ?_, fun h => x2 (by omega), x3, ?_⟩
            · obtain ⟨f1, f2⟩ := x1 (by omega)
              refine ⟨?_, by omega⟩
              rw [hv, z2, e1, f1]
              split <;> omega
            · by_cases hc : (tN u : Int) ≤ lv
              · have := (x1 hc).2; omega
              · have := x2 hc; omega)
          by_cases hmx : m < d
          · go_wp2
            go_roundg (l.length - (j + 1))
            case measure => omega
            case rel => exact ⟨d, lv2, j + 1, by omega, by omega, rfl, by rw [wrap_succ (by omega) (by have := HLEN.out; omega)]; rfl, HG6, HP6, ⟨HR.out d (by rw [if_pos hmx])⟩⟩
          · go_wp2
            go_roundg (l.length - (j + 1))
            case measure => omega
            case rel => exact ⟨m, lv2, j + 1, by omega, by omega, rfl, by rw [wrap_succ (by omega) (by have := HLEN.out; omega)]; rfl, HG6, HP6, ⟨HR.out m (by rw [if_neg (by omega)])⟩⟩
      · have hltz : ¬ (j : Int) < (l.length : Int) := by omega
        have hje : j = l.length := by omega
        have hm := tDL_le l
        subst hje
        rw [List.take_length] at HM
        go_wp2
        go_ret
        refine ⟨wrap64 (m + 1), lv, rfl, HP.out, fun h => ?_, fun h => ?_, (HM.out).2.2.1, HG.out⟩
        · rw [tN] at h ⊢
          rw [tD]
          obtain ⟨e1, e2⟩ := (HM.out).1 (by omega)
          have := HD.out
          rw [e1, wr_id (by omega) (by omega)]
          exact ⟨by omega, by omega⟩
        · rw [tN] at h
          exact (HM.out).2.1 (by omega)
def tsizeV (t : S50) : Int × Int := if tN t ≤ 100000 then ((tN t : Int), (tD t : Int)) else (100001, 0)
set_option maxHeartbeats 2000000 in
theorem tsize_calls (t : S50) (A : Option Addr) (c : Nat) (w : World) (hC : Kd.C k50 w A t.f2.length t.f2) (hc : t.f2.length ≤ c) :
    Calls Tryz.prog 41 #[.agg #[.int .i64 t.f0, .int .i64 t.f1, .slice A t.f2.length c]] w fun E w' => E = .returned (.tuple #[.int .i64 (tsizeV t).1, .int .i64 (tsizeV t).2]) ∧ Below w.heap.size w w' := by
  have HM := Aside0.mk (tmeas_calls w (w.heap.size + 1) (Nat.le_succ _) _ t (Nat.le_refl _) A c 100000 ((w.alloc (.cells #[.int .i64 t.f0, .int .i64 t.f1, .slice A t.f2.length c] 50)).alloc (.cells #[.int .i64 100000] 3)) hC hc (below_alloc (below_alloc (Below.refl _ _) _) _) (blk_at2 w _ _) (by omega) (by omega))
  have HB := Aside0.mk (show Below w.heap.size w ((w.alloc (.cells #[.int .i64 t.f0, .int .i64 t.f1, .slice A t.f2.length c] 50)).alloc (.cells #[.int .i64 100000] 3)) from below_alloc (below_alloc (Below.refl _ _) _) _)
  have HX := Aside0.mk (blk_alloc (blk_new w (.cells #[.int .i64 t.f0, .int .i64 t.f1, .slice A t.f2.length c] 50)) (.cells #[.int .i64 100000] 3))
  clear hC hc
  go_enter Tryz.func41, Tryz.ntmps41
  go_upto_region 2 with (fail)
  generalize ((w.alloc (.cells #[.int .i64 t.f0, .int .i64 t.f1, .slice A t.f2.length c] 50)).alloc (.cells #[.int .i64 100000] 3)) = W1 at *
  have hb0 : W1.cell? ⟨w.heap.size, 0, none⟩ = some (.int .i64 t.f0) := (blk_cell HX.out 0).trans rfl
  have hb1 : W1.cell? ⟨w.heap.size, 1, none⟩ = some (.int .i64 t.f1) := (blk_cell HX.out 1).trans rfl
  have hb2 : W1.cell? ⟨w.heap.size, 2, none⟩ = some (.slice A t.f2.length c) := (blk_cell HX.out 2).trans rfl
  go_wp2_with fail
  refine (HM.out).mono ?_
  rintro E w2 ⟨d, lv, rfl, hP, hx1, hx2, hx3, hG⟩
  have HB2 := Aside0.mk (below_of_grown HB.out (Nat.le_succ _) hG)
  have hq : w2.cell? ⟨w.heap.size + 1, 0, none⟩ = some (.int .i64 lv) := (blk_cell hP 0).trans rfl
  have HXX := Aside0.mk (And.intro hx1 (And.intro hx2 hx3))
  clear hG hP hb0 hb1 hb2 HM HX HB hx1 hx2 hx3
  by_cases hn : tN t ≤ 100000
  · obtain ⟨rfl, e2⟩ := (HXX.out).1 (by omega)
    have hneg : ¬ lv < 0 := by omega
    have HE := Aside0.mk (show tsizeV t = ((tN t : Int), (tD t : Int)) from if_pos hn)
    have HL := Aside0.mk (show 100000 - lv = (tN t : Int) by omega)
    have HLV := Aside0.mk (show 0 ≤ lv ∧ lv ≤ 100000 by omega)
    clear e2 hn
    go_wp2
    go_ret2
    refine ⟨?_, HB2.out⟩
    rw [HE.out]
    first
      | (rw [HL.out]; rfl)
      | (rw [wr_id (x := 100000 - lv) (by have := HLV.out; omega) (by have := HLV.out; omega), HL.out]; rfl)
  · have hneg : lv < 0 := (HXX.out).2.1 (by omega)
    have HE := Aside0.mk (show tsizeV t = (100001, 0) from if_neg hn)
    clear hn
    go_wp2
    go_ret2
    exact ⟨by rw [HE.out]; rfl, HB2.out⟩
end Go.Proofs.YthflpbgloeimfaaGreatDoor.H
namespace Go.Proofs.YthflpbgloeimfaaGreatDoor.H
open Go.RowKit Go.Proofs.YthflpbgloeimfaaGreatDoorW.PrintWords Go.Proofs.YthflpbgloeimfaaGreatDoorW.PrintLast Go.Proofs.YthflpbgloeimfaaGreatDoorW.PrintMore
open Go.Proofs.YthflpbgloeimfaaGreatDoor.Q (S47 k47 rd_T47 z47 at_T47 S50 k50 rd_T50 z50 at_T50 S52 k52 S71 k71 rd_T71)
attribute [local go_sem] max2_int min2_int max_two min_two max_three min_three max_four min_four
set_option linter.unusedVariables false
def fv93 : Value := .func (.func 93) #[] #[]
theorem few1_calls (A : Option Addr) (n c : Nat) (w : World) : Calls Tryz.prog 93 #[.agg #[.slice A n c]] w fun E w' => E = .returned (.bool (decide (n ≤ 8))) ∧ Below w.heap.size w w' := by
  have HB := Aside0.mk (below_alloc (Below.refl w.heap.size w) (.cells #[.slice A n c] 47))
  have HX := Aside0.mk (blk_new w (.cells #[.slice A n c] 47))
  go_enter Tryz.func93, Tryz.ntmps93
  go_upto_region 1 with (fail)
  generalize w.alloc (.cells #[.slice A n c] 47) = W1 at *
  have hb0 : W1.cell? ⟨w.heap.size, 0, none⟩ = some (.slice A n c) := (blk_cell HX.out 0).trans rfl
  go_wp2
  go_ret
  exact ⟨by rw [show decide ((n : Int) ≤ 8) = decide (n ≤ 8) from decide_eq_decide.2 (by omega)]; rfl, HB.out⟩
theorem sFL_snoc (a : List S47) (x : S47) : sFL (a ++ [x]) = (sFL a && sF x) := by
  induction a with
  | nil => simp [sFL]
  | cons y r ih => rw [List.cons_append, sFL, sFL, ih, Bool.and_assoc]
theorem sFL_take {l : List S47} {j : Nat} (h : sFL (l.take j) = false) : sFL l = false := by
  induction l generalizing j with
  | nil => simp [sFL] at h
  | cons a r ih =>
    cases j with
    | zero => simp [sFL] at h
    | succ j =>
      rw [List.take_succ_cons, sFL] at h
      rw [sFL]
      cases e : sF a with
      | false => rfl
      | true => rw [e, Bool.true_and] at h; rw [ih h]; rfl
set_option maxHeartbeats 4000000 in
set_option maxRecDepth 100000 in
theorem sall_calls (w0 : World) (N : Nat) : ∀ (t : S47), sN t ≤ N → N ≤ 1000000 → ∀ (A : Option Addr) (c : Nat) (W : World), Kd.C k47 w0 A t.f0.length t.f0 → t.f0.length ≤ c → Below w0.heap.size w0 W →
    Calls Tryz.prog 92 #[.agg #[.slice A t.f0.length c], fv93] W fun E W' => E = .returned (.bool (sF t)) ∧ Below W.heap.size W W' := by
  induction N with
  | zero => intro t h; have := sN_pos t; omega
  | succ N ih =>
    intro t hN hM A c W hC hc hB
    obtain ⟨l⟩ := t
    rw [sN] at hN
    have HLEN := Aside0.mk (show l.length ≤ 1000000 from by have := sLen_le (l := l); omega)
    have HC := Aside0.mk hC
    have IH := Aside0.mk ih
    have HB0 := Aside0.mk hB
    have HD := Aside0.mk (show sNL l ≤ N ∧ N ≤ 1000000 from ⟨by omega, by omega⟩)
    have HB1 := Aside0.mk (below_alloc (Below.refl W.heap.size W) (.cells #[.slice A l.length c] 47))
    have HX1 := Aside0.mk (blk_new W (.cells #[.slice A l.length c] 47))
    clear hC ih hB hN hM hc
    unfold fv93
    go_enter Tryz.func92, Tryz.ntmps92
    go_upto_region 1 with (fail)
    generalize (W.alloc (.cells #[.slice A l.length c] 47)) = W1 at *
    have hb0 : W1.cell? ⟨W.heap.size, 0, none⟩ = some (.slice A l.length c) := (blk_cell HX1.out 0).trans rfl
    go_wp2
    clear hb0
    go_loopg [10] l.length (fun gg v10 wi => ∃ (j : Nat), j ≤ l.length ∧ l.length - j ≤ gg ∧ v10 = .int .i64 j ∧ Aside0 (Below W.heap.size W wi) ∧ Aside0 (wi.heap[W.heap.size]? = some (.cells #[.slice A l.length c] 47 (0, 0))) ∧ Aside0 (sFL (l.take j) = true))
    case atStart => exact ⟨0, by omega, by omega, rfl, HB1, HX1, ⟨by rw [List.take_zero, sFL]⟩⟩
    case round =>
      clear HB1 HX1
      obtain ⟨j, hj, hgg, rfl, HB, HX, HT⟩ := hrel
      by_cases hlt : j < l.length
      · have hltz : (j : Int) < (l.length : Int) := by omega
        have HBr := Aside0.mk (below_then HB0.out (HB0.out).size HB.out)
        obtain ⟨ad, A1, c1, e, hx0, hl1, hC1⟩ := at_T47 HC.out (j : Int) (by omega) hltz
        subst e
        rw [rdS_at hlt] at hx0 hl1 hC1
        rw [Int.toNat_natCast] at hx0
        replace hx0 := ((HBr.out).cell (World.block_lt_of_cell? w0 _ hx0)).trans hx0
        have HJ := Aside0.mk (show sFL (l.take (j + 1)) = sF l[j] ∧ sN l[j] ≤ N from ⟨by rw [takeS hlt, sFL_snoc, HT.out, Bool.true_and], by have := sN_mem (List.getElem_mem hlt); have := HD.out; omega⟩)
        generalize l[j] = u at *
        have HC1 := Aside0.mk hC1
        have HL1 := Aside0.mk hl1
        clear hC1 hl1
        go_upto_region 4 with (fail)
        have HB5 := Aside0.mk (below_alloc HB.out (.cells #[.slice A1 u.f0.length c1] 47))
        have HBr5 := Aside0.mk (below_alloc HBr.out (.cells #[.slice A1 u.f0.length c1] 47))
        have HX5 := Aside0.mk (blk_new wr (.cells #[.slice A1 u.f0.length c1] 47))
        have HY5 := Aside0.mk (blk_alloc HX.out (.cells #[.slice A1 u.f0.length c1] 47))
        clear HB HX HBr hx0
        generalize (wr.alloc (.cells #[.slice A1 u.f0.length c1] 47)) = w5 at *
        generalize wr.heap.size = b7 at *
        have hb0 : w5.cell? ⟨b7, 0, none⟩ = some (.slice A1 u.f0.length c1) := (blk_cell HX5.out 0).trans rfl
        go_wp2_with fail
        refine (IH.out u (HJ.out).2 (HD.out).2 A1 c1 w5 HC1.out HL1.out HBr5.out).mono ?_
        rintro E w6 ⟨rfl, hb⟩
        have HB6 := Aside0.mk (below_then HB5.out (HB5.out).size hb)
        have HY6 := Aside0.mk (blk_below HY5.out hb)
        clear hb hb0
        cases q : sF u with
        | false =>
          have HF := Aside0.mk (show sFL l = false from sFL_take (j := j + 1) (by rw [(HJ.out).1, q]))
          clear q
          go_wp2
          go_ret
          exact ⟨by rw [sF, HF.out]; rfl, HB6.out⟩
        | true =>
          have HF := Aside0.mk (show sFL (l.take (j + 1)) = true from by rw [(HJ.out).1, q])
          clear q
          go_wp2
          go_roundg (l.length - (j + 1))
          case measure => omega
          case rel => exact ⟨j + 1, by omega, by omega, by rw [wrap_succ (by omega) (by have := HLEN.out; omega)]; rfl, HB6, HY6, HF⟩
      · have hltz : ¬ (j : Int) < (l.length : Int) := by omega
        have hje : j = l.length := by omega
        have hb0 : wr.cell? ⟨W.heap.size, 0, none⟩ = some (.slice A l.length c) := (blk_cell HX.out 0).trans rfl
        subst hje
        rw [List.take_length] at HT
        go_wp2_with fail
        refine (few1_calls A l.length c wr).mono ?_
        rintro E w6 ⟨rfl, hb⟩
        have HB6 := Aside0.mk (below_then HB.out (HB.out).size hb)
        clear hb hb0
        go_wp2
        go_ret
        exact ⟨by rw [sF, HT.out, Bool.true_and]; rfl, HB6.out⟩
def schkV (t : S47) : Int := if srtB t then 0 else 6
set_option maxHeartbeats 4000000 in
set_option maxRecDepth 100000 in
theorem scheck_calls (t : S47) (A : Option Addr) (c : Nat) (w : World) (hC : Kd.C k47 w A t.f0.length t.f0) (hc : t.f0.length ≤ c) :
    Calls Tryz.prog 40 #[.agg #[.slice A t.f0.length c]] w fun E w' => E = .returned (.int .i64 (schkV t)) ∧ Below w.heap.size w w' := by
  have HS := Aside0.mk fun W (hW : Below w.heap.size w W) => ssize_calls t A c W (Kd.C_below hC hW) hc
  have HA := Aside0.mk fun (h : sN t ≤ 60) W (hW : Below w.heap.size w W) => sall_calls w 60 t h (by omega) A c W hC hc hW
  have HB := Aside0.mk (below_alloc (Below.refl w.heap.size w) (.cells #[.slice A t.f0.length c] 47))
  have HX := Aside0.mk (blk_new w (.cells #[.slice A t.f0.length c] 47))
  clear hC hc
  go_enter Tryz.func40, Tryz.ntmps40
  go_upto_region 1 with (fail)
  generalize w.alloc (.cells #[.slice A t.f0.length c] 47) = W1 at *
  have hb0 : W1.cell? ⟨w.heap.size, 0, none⟩ = some (.slice A t.f0.length c) := (blk_cell HX.out 0).trans rfl
  go_wp2_with fail
  refine (HS.out W1 HB.out).mono ?_
  rintro E w2 ⟨rfl, hb⟩
  have HB2 := Aside0.mk (below_then HB.out (HB.out).size hb)
  have HX2 := Aside0.mk (blk_below HX.out hb)
  clear hb hb0 HS HB HX
  have hb0 : w2.cell? ⟨w.heap.size, 0, none⟩ = some (.slice A t.f0.length c) := (blk_cell HX2.out 0).trans rfl
  by_cases h1 : sN t ≤ 60
  case neg =>
    have HV := Aside0.mk (show schkV t = 6 by unfold schkV srtB; rw [decide_eq_false h1]; rfl)
    rw [show ssizeV t = (61, 0) from if_neg h1]
    clear h1
    go_wp2
    go_ret
    exact ⟨by rw [HV.out]; rfl, HB2.out⟩
  have HA2 := Aside0.mk (HA.out h1 w2 HB2.out)
  rw [show ssizeV t = ((sN t : Int), (sD t : Int)) from if_pos h1]
  have h1z : ¬ (sN t : Int) > 60 := by omega
  by_cases h2 : sD t ≤ 30
  case neg =>
    have HV := Aside0.mk (show schkV t = 6 by unfold schkV srtB; rw [decide_eq_false h2]; simp)
    have h2z : (sD t : Int) > 30 := by omega
    clear h1 h2
    generalize (sN t : Int) = n at *
    generalize (sD t : Int) = d at *
    go_wp2
    go_ret
    exact ⟨by rw [HV.out]; rfl, HB2.out⟩
  have HV := Aside0.mk (show schkV t = if sF t then 0 else 6 by unfold schkV srtB; rw [decide_eq_true h1, decide_eq_true h2, Bool.true_and, Bool.true_and])
  have h2z : ¬ (sD t : Int) > 30 := by omega
  clear h1 h2
  generalize (sN t : Int) = n at *
  generalize (sD t : Int) = d at *
  go_wp2_with fail
  refine (HA2.out).mono ?_
  rintro E w3 ⟨rfl, hb⟩
  have HB3 := Aside0.mk (below_then HB2.out (HB2.out).size hb)
  clear hb hb0
  cases q : sF t with
  | false =>
    rw [q] at HV
    clear q
    go_wp2
    go_ret
    exact ⟨by rw [HV.out]; rfl, HB3.out⟩
  | true =>
    rw [q] at HV
    clear q
    go_wp2
    go_ret
    exact ⟨by rw [HV.out]; rfl, HB3.out⟩
theorem ssame_call (a b : S47) (A : Option Addr) (c : Nat) (B : Option Addr) (d : Nat) (w : World) (ha : Kd.C k47 w A a.f0.length a.f0) (hac : a.f0.length ≤ c) (hb : Kd.C k47 w B b.f0.length b.f0) (hbc : b.f0.length ≤ d) (hn : sN a ≤ 1000000) :
    Calls Tryz.prog 112 #[.agg #[.slice A a.f0.length c], .agg #[.slice B b.f0.length d]] w fun E w' => E = .returned (.bool (sE a b)) ∧ Below w.heap.size w w' := by
  obtain ⟨k, hk⟩ := (same_ev 1000000 a b hn (by omega)).rounds
  exact Q.sorts_same.calls k A c a.f0 B d b.f0 (sE a b) w ha hac hb hbc hk
def sSameV (a b : S47) : Bool := decide (sN a ≤ 60) && sE a b
theorem sE_N {a b : S47} (h : sN a ≠ sN b) : sE a b = false := by
  cases e : sE a b with
  | false => rfl
  | true => rw [sE_iff.1 e] at h; exact absurd rfl h
theorem sSame_size {a b : S47} : sSameV a b = (decide ((ssizeV a).1 ≤ 60) && (decide ((ssizeV a).1 = (ssizeV b).1) && sE a b)) := by
  unfold sSameV ssizeV
  by_cases h : sN a ≤ 60
  · rw [if_pos h, decide_eq_true h]
    by_cases h2 : sN b ≤ 60
    · rw [if_pos h2]
      by_cases h3 : sN a = sN b
      · rw [h3]; simp; omega
      · rw [sE_N h3]; simp
    · rw [if_neg h2, sE_N (by omega)]; simp
  · rw [if_neg h, decide_eq_false h]; simp
set_option maxHeartbeats 4000000 in
set_option maxRecDepth 100000 in
theorem sSame_calls (a b : S47) (A : Option Addr) (c : Nat) (B : Option Addr) (d : Nat) (w : World) (ha : Kd.C k47 w A a.f0.length a.f0) (hac : a.f0.length ≤ c) (hb : Kd.C k47 w B b.f0.length b.f0) (hbc : b.f0.length ≤ d) :
    Calls Tryz.prog 74 #[.agg #[.slice A a.f0.length c], .agg #[.slice B b.f0.length d]] w fun E w' => E = .returned (.bool (sSameV a b)) ∧ Below w.heap.size w w' := by
  have H1 := Aside0.mk fun W (hW : Below w.heap.size w W) => ssize_calls a A c W (Kd.C_below ha hW) hac
  have H2 := Aside0.mk fun W (hW : Below w.heap.size w W) => ssize_calls b B d W (Kd.C_below hb hW) hbc
  have H3 := Aside0.mk fun (h : (ssizeV a).1 ≤ 60) W (hW : Below w.heap.size w W) => ssame_call a b A c B d W (Kd.C_below ha hW) hac (Kd.C_below hb hW) hbc (by
    unfold ssizeV at h
    by_cases h1 : sN a ≤ 60
    · omega
    · rw [if_neg h1] at h; exact absurd h (by decide))
  have HV := Aside0.mk (sSame_size (a := a) (b := b))
  have HB := Aside0.mk (below_alloc (below_alloc (Below.refl w.heap.size w) (.cells #[.slice A a.f0.length c] 47)) (.cells #[.slice B b.f0.length d] 47))
  have HX := Aside0.mk (blk_alloc (blk_new w (.cells #[.slice A a.f0.length c] 47)) (.cells #[.slice B b.f0.length d] 47))
  have HY := Aside0.mk (blk_at2 w (.cells #[.slice A a.f0.length c] 47) (.cells #[.slice B b.f0.length d] 47))
  clear ha hac hb hbc
  go_enter Tryz.func74, Tryz.ntmps74
  go_upto_region 1 with (fail)
  generalize (w.alloc (.cells #[.slice A a.f0.length c] 47)).alloc (.cells #[.slice B b.f0.length d] 47) = W1 at *
  have hb0 : W1.cell? ⟨w.heap.size, 0, none⟩ = some (.slice A a.f0.length c) := (blk_cell HX.out 0).trans rfl
  have hb1 : W1.cell? ⟨w.heap.size + 1, 0, none⟩ = some (.slice B b.f0.length d) := (blk_cell HY.out 0).trans rfl
  go_wp2_with fail
  refine (H1.out W1 HB.out).mono ?_
  rintro E w2 ⟨rfl, hb⟩
  have HB2 := Aside0.mk (below_then HB.out (HB.out).size hb)
  have HX2 := Aside0.mk (blk_below HX.out hb)
  have HY2 := Aside0.mk (blk_below HY.out hb)
  clear hb hb0 hb1 HB HX HY
  have hb0 : w2.cell? ⟨w.heap.size, 0, none⟩ = some (.slice A a.f0.length c) := (blk_cell HX2.out 0).trans rfl
  have hb1 : w2.cell? ⟨w.heap.size + 1, 0, none⟩ = some (.slice B b.f0.length d) := (blk_cell HY2.out 0).trans rfl
  go_wp2_with fail
  refine (H2.out w2 HB2.out).mono ?_
  rintro E w3 ⟨rfl, hb⟩
  have HB3 := Aside0.mk (below_then HB2.out (HB2.out).size hb)
  have HX3 := Aside0.mk (blk_below HX2.out hb)
  have HY3 := Aside0.mk (blk_below HY2.out hb)
  clear hb hb0 hb1 HB2 HX2 HY2
  have hb0 : w3.cell? ⟨w.heap.size, 0, none⟩ = some (.slice A a.f0.length c) := (blk_cell HX3.out 0).trans rfl
  have hb1 : w3.cell? ⟨w.heap.size + 1, 0, none⟩ = some (.slice B b.f0.length d) := (blk_cell HY3.out 0).trans rfl
  generalize (ssizeV a).1 = n at *
  generalize (ssizeV b).1 = m at *
  cases q1 : decide (n ≤ 60) with
  | false =>
    rw [q1] at HV
    go_wp2
    go_ret
    exact ⟨by rw [HV.out]; rfl, HB3.out⟩
  | true =>
  have H4 := Aside0.mk (H3.out (of_decide_eq_true q1) w3 HB3.out)
  rw [q1] at HV
  cases q2 : decide (n = m) with
  | false =>
    rw [q2] at HV
    have hne : ¬ n = m := of_decide_eq_false q2
    go_wp2
    go_ret
    exact ⟨by rw [HV.out]; rfl, HB3.out⟩
  | true =>
    rw [q2] at HV
    obtain rfl : n = m := of_decide_eq_true q2
    go_wp2_with fail
    refine (H4.out).mono ?_
    rintro E w4 ⟨rfl, hb⟩
    have HB4 := Aside0.mk (below_then HB3.out (HB3.out).size hb)
    clear hb
    go_wp2
    go_ret
    exact ⟨by rw [HV.out]; rfl, HB4.out⟩
end Go.Proofs.YthflpbgloeimfaaGreatDoor.H
namespace Go.Proofs.YthflpbgloeimfaaGreatDoorW.PrintWords
open Go.RowKit Go.Maps Go.ChangeMaps
structure KeyB {κ : Type} (P : Program) (k : TypeId) (enc : κ → Value) (dom : κ → Prop) : Prop where
  K : Keyed P k
  lit : ∀ x, dom x → ∃ l, keyOf P k (enc x) = some l
  inj : ∀ x y, enc x = enc y → x = y
def entsOf {κ ν : Type} (enc : κ → Value) (encV : ν → Value) (es : List (κ × ν)) : List (Value × Value) := es.map fun p => (enc p.1, encV p.2)
def MapIs {κ ν : Type} (w : World) (B : Nat) (enc : κ → Value) (encV : ν → Value) (dom : κ → Prop) (es : List (κ × ν)) : Prop :=
  (∃ ms ck, w.heap[B]? = some (.map ms ck) ∧ ms.toList.map (fun e => (e.key, e.val)) = entsOf enc encV es) ∧ (es.map (·.1)).Nodup ∧ ∀ p ∈ es, dom p.1
section
variable {κ ν : Type} {P : Program} {w w1 : World} {B : Nat} {enc : κ → Value} {encV : ν → Value} {dom : κ → Prop} {es : List (κ × ν)} {k t e : TypeId}
theorem mapIs_new (w : World) (enc : κ → Value) (encV : ν → Value) (dom : κ → Prop) : MapIs (w.alloc (.map #[] 0)) w.heap.size enc encV dom [] :=
  ⟨⟨#[], 0, heap_alloc_new w _, rfl⟩, List.nodup_nil, by simp⟩
theorem MapIs.kept (h : MapIs w B enc encV dom es) (hb : w1.heap[B]? = w.heap[B]?) : MapIs w1 B enc encV dom es := by
  obtain ⟨⟨ms, ck, h1, h2⟩, h3⟩ := h
  exact ⟨⟨ms, ck, hb.trans h1, h2⟩, h3⟩
theorem MapIs.lt (h : MapIs w B enc encV dom es) : B < w.heap.size := by
  obtain ⟨⟨ms, ck, h1, _⟩, _⟩ := h
  exact (Array.getElem?_eq_some_iff.1 h1).1
theorem MapIs.below (h : MapIs w B enc encV dom es) (hb : Below w.heap.size w w1) : MapIs w1 B enc encV dom es := h.kept (hb.block B h.lt)
theorem MapIs.grown (h : MapIs w B enc encV dom es) {row : Option Nat} (hg : w.grownBy w1 row) (hne : some B ≠ row) : MapIs w1 B enc encV dom es := h.kept (hg.block B h.lt hne)
theorem MapIs.far (h : MapIs w B enc encV dom es) {p : Addr} (hp : B ≠ p.block) (u : Value) : MapIs (w.setCell p u) B enc encV dom es := h.kept (Below.heap_setCell w p u B hp)
theorem MapIs.ne_row (h : MapIs w B enc encV dom es) {g : Nat} {cs : Array Value} {q : TypeId} {fr : Nat × Nat} (hg : w.heap[g]? = some (.cells cs q fr)) : g ≠ B := by
  rintro rfl
  obtain ⟨⟨ms, ck, h1, _⟩, _⟩ := h
  rw [hg] at h1
  cases h1
theorem MapIs.len (h : MapIs w B enc encV dom es) (ht : P.underlying t = some (.map k e)) (ty : TypeId) : (Builtin.len_ #[t] ty #[.map (some B)]).run P w = .ok (.int .i64 es.length) w := by
  obtain ⟨⟨ms, ck, hb, hms⟩, _⟩ := h
  have hlen : ms.size = es.length := by have := congrArg List.length hms; simpa [entsOf] using this
  simp [Builtin.len_, run_underlying ht, MapKept.run_getObj_map hb, hlen, goInt]
end
section
variable {κ ν : Type} [DecidableEq κ] {P : Program} {w w1 : World} {B : Nat} {enc : κ → Value} {encV : ν → Value} {dom : κ → Prop} {es : List (κ × ν)} {k t e : TypeId}
def mget (x : κ) (es : List (κ × ν)) : Option ν := (es.find? fun p => p.1 = x).map (·.2)
def mput (x : κ) (v : ν) : List (κ × ν) → List (κ × ν)
  | [] => [(x, v)]
  | (y, u) :: r => if y = x then (x, v) :: r else (y, u) :: mput x v r
theorem mput_new {x : κ} {v : ν} {es : List (κ × ν)} (h : x ∉ es.map (·.1)) : mput x v es = es ++ [(x, v)] := by
  induction es with
  | nil => rfl
  | cons p r ih =>
    obtain ⟨y, u⟩ := p
    simp only [List.map_cons, List.mem_cons, not_or] at h
    simp only [mput, if_neg (Ne.symm h.1), ih h.2, List.cons_append]
theorem mput_keys {x : κ} {v : ν} (es : List (κ × ν)) : (mput x v es).map (·.1) = if x ∈ es.map (·.1) then es.map (·.1) else es.map (·.1) ++ [x] := by
  induction es with
  | nil => simp [mput]
  | cons p r ih =>
    obtain ⟨y, u⟩ := p
    by_cases h : y = x
    · subst h; simp [mput]
    · simp only [mput, if_neg h, List.map_cons, ih, List.mem_cons, Ne.symm h, false_or]
      split <;> simp
theorem mget_none {x : κ} {es : List (κ × ν)} : mget x es = none ↔ x ∉ es.map (·.1) := by
  simp only [mget, Option.map_eq_none_iff, List.find?_eq_none, List.mem_map, not_exists, not_and, decide_eq_true_eq]
theorem find_keys (H : KeyB P k enc dom) {ms : List MapEntry} (hms : ms.map (fun e => (e.key, e.val)) = entsOf enc encV es) (hd : ∀ p ∈ es, dom p.1) {x : κ} (hx : dom x) (w : World) (hnd : (es.map (·.1)).Nodup) :
    (mget x es = none ∧ (Instr.findKey k (enc x) ms).run P w = .ok none w) ∨ ∃ v j, mget x es = some v ∧ es[j]? = some (x, v) ∧ (Instr.findKey k (enc x) ms).run P w = .ok (some (j, encV v)) w := by
  have hlen : ms.length = es.length := by have := congrArg List.length hms; simpa [entsOf] using this
  have hat : ∀ (j : Nat) (e : MapEntry), ms[j]? = some e → ∃ p : κ × ν, es[j]? = some p ∧ e.key = enc p.1 ∧ e.val = encV p.2 := by
    intro j e he
    have h1 : (ms.map (fun e => (e.key, e.val)))[j]? = some (e.key, e.val) := by rw [List.getElem?_map, he]; rfl
    rw [hms] at h1
    simp only [entsOf, List.getElem?_map, Option.map_eq_some_iff, Prod.mk.injEq] at h1
    obtain ⟨p, hp, h2, h3⟩ := h1
    exact ⟨p, hp, h2.symm, h3.symm⟩
  obtain ⟨l, hl⟩ := H.lit x hx
  rcases H.K.find w hl ms (fun e he => by
    obtain ⟨j, hj, rfl⟩ := List.getElem_of_mem he
    obtain ⟨p, hp, h2, _⟩ := hat j _ (List.getElem?_eq_getElem hj)
    rw [h2]
    exact H.lit _ (hd p (List.mem_of_getElem? hp))) with ⟨h1, h2⟩ | ⟨j, e0, h1, h2, h3⟩
  · refine .inl ⟨mget_none.2 fun hm => ?_, h1⟩
    obtain ⟨p, hp, rfl⟩ := List.mem_map.1 hm
    obtain ⟨j, hj, hpj⟩ := List.getElem_of_mem hp
    have hj' : j < ms.length := by omega
    obtain ⟨q, hq, h4, _⟩ := hat j _ (List.getElem?_eq_getElem hj')
    rw [List.getElem?_eq_getElem hj, Option.some.injEq, hpj] at hq
    subst hq
    exact h2 _ (List.getElem_mem hj') h4
  · obtain ⟨p, hp, h4, h5⟩ := hat j e0 h2
    have hpx : p.1 = x := H.inj _ _ (h4.symm.trans h3)
    obtain ⟨y, v⟩ := p
    simp only at hpx
    subst hpx
    refine .inr ⟨v, j, ?_, hp, by rw [h1, h5]⟩
    have hfind : ∀ (es : List (κ × ν)) (j : Nat), (es.map (·.1)).Nodup → es[j]? = some (y, v) → mget y es = some v := by
      intro es
      induction es with
      | nil => intro j _ h; simp at h
      | cons q r ih =>
        intro j hn hj
        cases j with
        | zero =>
          obtain rfl : q = (y, v) := by simpa using hj
          simp [mget]
        | succ j =>
          have hj' : r[j]? = some (y, v) := by simpa using hj
          simp only [List.map_cons, List.nodup_cons] at hn
          have hne : q.1 ≠ y := fun e => hn.1 (e ▸ List.mem_map.2 ⟨(y, v), List.mem_of_getElem? hj', rfl⟩)
          have h6 := ih j hn.2 hj'
          simp only [mget] at h6 ⊢
          rw [List.find?_cons, decide_eq_false hne]
          exact h6
    exact hfind es j hnd hp
theorem MapIs.look (h : MapIs w B enc encV dom es) (H : KeyB P k enc dom) (ht : P.underlying t = some (.map k e)) {z : Value} (hz : (zeroValue e).run P w = .ok z w) {x : κ} (hx : dom x) (c : Bool) :
    (Instr.lookup t (.map (some B)) (enc x) c).run P w = .ok (match mget x es with | some v => if c then .tuple #[encV v, .bool true] else encV v | none => if c then .tuple #[z, .bool false] else z) w := by
  obtain ⟨⟨ms, ck, hb, hms⟩, hnd, hd⟩ := h
  obtain ⟨l, hl⟩ := H.lit x hx
  rcases find_keys H hms hd hx w hnd with ⟨h1, h2⟩ | ⟨v, j, h1, _, h2⟩
  · rw [h1]
    simp [Instr.lookup, run_underlying ht, MapKept.run_getObj_map hb, H.K.check w _ hl, h2, hz, Result.andThen]
  · rw [h1]
    simp [Instr.lookup, run_underlying ht, MapKept.run_getObj_map hb, H.K.check w _ hl, h2, Result.andThen]
theorem ents_mput (H : KeyB P k enc dom) (x : κ) (v : ν) : ∀ (es : List (κ × ν)) (j : Nat) (u : ν), es[j]? = some (x, u) → (es.map (·.1)).Nodup → entsOf enc encV (mput x v es) = (entsOf enc encV es).set j (enc x, encV v)
  | [], j, u, h, _ => by simp at h
  | (y, z) :: r, 0, u, h, hn => by
    have h' : y = x ∧ z = u := by simpa using h
    obtain ⟨rfl, rfl⟩ := h'
    simp [mput, entsOf]
  | (y, z) :: r, j + 1, u, h, hn => by
    have hj' : r[j]? = some (x, u) := by simpa using h
    simp only [List.map_cons, List.nodup_cons] at hn
    have hne : ¬ y = x := fun e => hn.1 (e ▸ List.mem_map.2 ⟨(x, u), List.mem_of_getElem? hj', rfl⟩)
    have ih := ents_mput H x v r j u hj' hn.2
    simp only [mput, if_neg hne, entsOf, List.map_cons, List.set_cons_succ]
    exact congrArg _ ih
theorem MapIs.put (h : MapIs w B enc encV dom es) (H : KeyB P k enc dom) (ht : P.underlying t = some (.map k e)) {x : κ} (hx : dom x) (v : ν) :
    ∃ w', (Instr.mapUpdate t (.map (some B)) (enc x) (encV v)).run P w = .ok () w' ∧ MapIs w' B enc encV dom (mput x v es) ∧ w.grownBy w' (some B) := by
  have hlt := h.lt
  obtain ⟨⟨ms, ck, hb, hms⟩, hnd, hd⟩ := h
  obtain ⟨l, hl⟩ := H.lit x hx
  have hkeys : ((mput x v es).map (·.1)).Nodup := by
    rw [mput_keys]
    split
    · exact hnd
    · rename_i hx'
      refine List.nodup_append.2 ⟨hnd, by simp, fun a ha b hb' => ?_⟩
      obtain rfl : b = x := by simpa using hb'
      exact fun e => hx' (e ▸ ha)
  have hdoms : ∀ p ∈ mput x v es, dom p.1 := by
    intro p hp
    have h1 : p.1 ∈ (mput x v es).map (·.1) := List.mem_map.2 ⟨p, hp, rfl⟩
    rw [mput_keys] at h1
    have h2 : p.1 ∈ es.map (·.1) ∨ p.1 = x := by
      split at h1
      · exact .inl h1
      · rcases List.mem_append.1 h1 with h1 | h1
        · exact .inl h1
        · exact .inr (by simpa using h1)
    rcases h2 with h2 | h2
    · obtain ⟨q, hq, e1⟩ := List.mem_map.1 h2
      rw [← e1]; exact hd q hq
    · rw [h2]; exact hx
  have hturn : ∀ o : Obj, w.grownBy (setBlock w B o) (some B) := fun o => ⟨rfl, rfl, rfl, by simp [setBlock], fun i hi hne => by
    have hne' : B ≠ i := fun e => hne (by rw [e])
    simp [setBlock, hne']⟩
  rcases find_keys H hms hd hx w hnd with ⟨h1, h2⟩ | ⟨u, j, h1, h3, h2⟩
  · refine ⟨setBlock w B (.map (ms.push ⟨enc x, encV v, ck⟩) (ck + 1)), ?_, ⟨⟨ms.push ⟨enc x, encV v, ck⟩, ck + 1, by simp [setBlock, hlt], ?_⟩, hkeys, hdoms⟩, hturn _⟩
    · simp [Instr.mapUpdate, run_underlying ht, MapKept.run_getObj_map hb, H.K.check w false hl, h2, MapKept.run_setObj_map _ hb, Result.andThen, setBlock]
    · rw [mput_new (mget_none.1 h1), Array.toList_push, List.map_append, hms]
      simp [entsOf]
  · have hj : j < ms.size := by
      have h4 : (entsOf enc encV es)[j]? = some (enc x, encV u) := by rw [entsOf, List.getElem?_map, h3]; rfl
      rw [← hms] at h4
      have := (List.getElem?_eq_some_iff.1 h4).1
      simpa using this
    have hkey : (ms[j]'hj).key = enc x := by
      have h4 : (entsOf enc encV es)[j]? = some (enc x, encV u) := by rw [entsOf, List.getElem?_map, h3]; rfl
      rw [← hms, List.getElem?_map, List.getElem?_eq_getElem (by simpa using hj)] at h4
      simpa using congrArg Prod.fst (Option.some.inj h4)
    refine ⟨setBlock w B (.map (ms.modify j fun e => { e with key := enc x, val := encV v }) ck), ?_, ⟨⟨ms.modify j fun e => { e with key := enc x, val := encV v }, ck, by simp [setBlock, hlt], ?_⟩, hkeys, hdoms⟩, hturn _⟩
    · simp [Instr.mapUpdate, run_underlying ht, MapKept.run_getObj_map hb, H.K.check w false hl, h2, MapKept.run_setObj_map _ hb, Result.andThen, setBlock, hj, hkey, H.K.stays w hl]
    · rw [ents_mput H x v es j u h3 hnd, ← hms]
      apply List.ext_getElem?
      intro i
      by_cases hij : i = j
      · subst hij
        simp [hj]
      · simp only [List.getElem?_map, Array.getElem?_toList, List.getElem?_set, Ne.symm hij, if_false]
        rw [Array.getElem?_modify]
        simp [Ne.symm hij]
end
end Go.Proofs.YthflpbgloeimfaaGreatDoorW.PrintWords
namespace Go.Proofs.YthflpbgloeimfaaGreatDoor.H
open Go.RowKit Go.Proofs.YthflpbgloeimfaaGreatDoorW.PrintWords Go.Proofs.YthflpbgloeimfaaGreatDoorW.PrintLast Go.Proofs.YthflpbgloeimfaaGreatDoorW.PrintMore
open Go.Proofs.YthflpbgloeimfaaGreatDoor.Q (S47 k47 rd_T47 z47 at_T47 S50 k50 rd_T50 z50 at_T50 S52 k52 S71 k71 rd_T71 at_T71)
attribute [local go_sem] max2_int min2_int max_two min_two max_three min_three max_four min_four
set_option linter.unusedVariables false
theorem sorder_call (t : S47) (A : Option Addr) (c : Nat) (w : World) (hC : Kd.C k47 w A t.f0.length t.f0) (hc : t.f0.length ≤ c) (hn : sN t ≤ 1000000) :
    Calls Tryz.prog 111 #[.agg #[.slice A t.f0.length c]] w fun E w' => E = .returned (.int .i64 (sO t : Int)) ∧ Below w.heap.size w w' := by
  obtain ⟨k, hk⟩ := (order_ev 1000000 t hn (by omega)).rounds
  exact Q.sorts_order.calls k A c t.f0 (sO t : Int) w hC hc hk
theorem srtB_N {t : S47} (h : srtB t = true) : sN t ≤ 60 := by
  unfold srtB at h
  simp only [Bool.and_eq_true, decide_eq_true_eq] at h
  exact h.1.1
def sOrdV (t : S47) : Int × Int := if srtB t then ((sO t : Int), 0) else (0, 6)
set_option maxHeartbeats 4000000 in
set_option maxRecDepth 100000 in
theorem sOrder_calls (t : S47) (A : Option Addr) (c : Nat) (w : World) (hC : Kd.C k47 w A t.f0.length t.f0) (hc : t.f0.length ≤ c) :
    Calls Tryz.prog 69 #[.agg #[.slice A t.f0.length c]] w fun E w' => E = .returned (.tuple #[.int .i64 (sOrdV t).1, .int .i64 (sOrdV t).2]) ∧ Below w.heap.size w w' := by
  have HS := Aside0.mk fun W (hW : Below w.heap.size w W) => scheck_calls t A c W (Kd.C_below hC hW) hc
  have HO := Aside0.mk fun (h : srtB t = true) W (hW : Below w.heap.size w W) => sorder_call t A c W (Kd.C_below hC hW) hc (by have := srtB_N h; omega)
  have HB := Aside0.mk (below_alloc (Below.refl w.heap.size w) (.cells #[.slice A t.f0.length c] 47))
  have HX := Aside0.mk (blk_new w (.cells #[.slice A t.f0.length c] 47))
  clear hC hc
  go_enter Tryz.func69, Tryz.ntmps69
  go_upto_region 1 with (fail)
  generalize w.alloc (.cells #[.slice A t.f0.length c] 47) = W1 at *
  have hb0 : W1.cell? ⟨w.heap.size, 0, none⟩ = some (.slice A t.f0.length c) := (blk_cell HX.out 0).trans rfl
  go_wp2_with fail
  refine (HS.out W1 HB.out).mono ?_
  rintro E w2 ⟨rfl, hb⟩
  have HB2 := Aside0.mk (below_then HB.out (HB.out).size hb)
  have HX2 := Aside0.mk (blk_below HX.out hb)
  clear hb hb0 HS HB HX
  have hb0 : w2.cell? ⟨w.heap.size, 0, none⟩ = some (.slice A t.f0.length c) := (blk_cell HX2.out 0).trans rfl
  cases q : srtB t with
  | false =>
    have HV := Aside0.mk (show sOrdV t = (0, 6) by unfold sOrdV; rw [q]; rfl)
    rw [show schkV t = 6 by unfold schkV; rw [q]; rfl]
    clear q
    go_wp2
    go_ret2
    exact ⟨by rw [HV.out]; rfl, HB2.out⟩
  | true =>
    have HV := Aside0.mk (show sOrdV t = ((sO t : Int), 0) by unfold sOrdV; rw [q]; rfl)
    have HO2 := Aside0.mk (HO.out q w2 HB2.out)
    rw [show schkV t = 0 by unfold schkV; rw [q]; rfl]
    clear q
    go_wp2_with fail
    refine (HO2.out).mono ?_
    rintro E w3 ⟨rfl, hb⟩
    have HB3 := Aside0.mk (below_then HB2.out (HB2.out).size hb)
    clear hb hb0
    go_wp2
    go_ret2
    exact ⟨by rw [HV.out]; rfl, HB3.out⟩
theorem name_calls (s : ByteArray) (w : World) : Calls Tryz.prog 39 #[.string s] w fun E w' => E = .returned (.bool (nameB s)) ∧ Below w.heap.size w w' := by
  obtain ⟨k, hk⟩ := (tname_ev s).rounds
  exact (Q.term_Name.calls k s (nameB s) w hk).mono fun e w' ⟨h1, h2⟩ => ⟨h1, h2.below⟩
theorem rname_calls (s : ByteArray) (w : World) : Calls Tryz.prog 64 #[.string s] w fun E w' => E = .returned (.bool (nameB s)) ∧ Below w.heap.size w w' := by
  obtain ⟨k, hk⟩ := (rname_ev s).rounds
  exact (Q.virgationref02_Name.calls k s (nameB s) w hk).mono fun e w' ⟨h1, h2⟩ => ⟨h1, h2.below⟩
theorem nameB_size {s : ByteArray} (h : nameB s = true) : s.size ≤ 24 := by
  unfold nameB nameL at h
  simp only [Bool.and_eq_true, decide_eq_true_eq] at h
  exact h.1.1.2
def sdom (s : ByteArray) : Prop := s.size ≤ maxLen
theorem keyStr : KeyB Tryz.prog 9 Value.string sdom where
  K := Go.Maps.string_keyed Tryz.underlying9
  lit := fun _ h => ⟨_, Go.WideMaps.keyOf_string_mk Tryz.underlying9 h⟩
  inj := fun x y h => by cases h; rfl
theorem zero4 (w : World) : (zeroValue 4).run Tryz.prog w = .ok (.bool false) w := by kernel_rfl
theorem zero3 (w : World) : (zeroValue 3).run Tryz.prog w = .ok (.int .i64 0) w := by kernel_rfl
def tru (ns : List ByteArray) : List (ByteArray × Bool) := ns.map fun s => (s, true)
theorem tru_keys (ns : List ByteArray) : (tru ns).map (·.1) = ns := by unfold tru; simp [Function.comp_def]
theorem mget_tru_not {ns : List ByteArray} {x : ByteArray} (h : x ∉ ns) : mget x (tru ns) = none := mget_none.2 (by rw [tru_keys]; exact h)
theorem mget_tru_mem {ns : List ByteArray} {x : ByteArray} (h : x ∈ ns) : mget x (tru ns) = some true := by
  induction ns with
  | nil => cases h
  | cons a r ih =>
    unfold tru mget at ih ⊢
    rw [List.map_cons, List.find?_cons]
    by_cases e : a = x
    · subst e; simp
    · simp only [decide_eq_false e]
      rcases List.mem_cons.1 h with rfl | h
      · exact absurd rfl e
      · exact ih h
theorem name_dom {s : ByteArray} (h : nameB s = true) : sdom s := by
  have := nameB_size h
  unfold sdom maxLen
  omega
def symOk (x : S71) : Bool := nameB x.f0 && decide (0 ≤ x.f1) && decide (x.f1 ≤ 4)
def symsB (l : List S71) : Bool := l.all symOk && decide ((l.map (·.f0)).Nodup) && decide (l.length ≤ 24)
theorem symsB_bad {l : List S71} {x : S71} (hx : x ∈ l) (h : symOk x = false) : symsB l = false := by
  have : l.all symOk = false := by
    cases e : l.all symOk with
    | false => rfl
    | true => rw [List.all_eq_true.1 e x hx] at h; cases h
  unfold symsB
  rw [this]; rfl
theorem nodup_take_bad {α : Type} {l : List α} {j : Nat} (h : j < l.length) (hm : l[j] ∈ l.take j) : ¬ l.Nodup := by
  intro hn
  rw [← List.take_append_drop j l, dropS h] at hn
  exact (List.nodup_append.1 hn).2.2 _ hm _ (List.mem_cons_self ..) rfl
theorem symsB_twice {l : List S71} {j : Nat} (h : j < l.length) (hm : l[j].f0 ∈ (l.take j).map (·.f0)) : symsB l = false := by
  have : ¬ (l.map (·.f0)).Nodup := by
    have h1 : j < (l.map (·.f0)).length := by simpa using h
    refine nodup_take_bad h1 ?_
    rw [← List.map_take]
    simpa using hm
  unfold symsB
  rw [decide_eq_false this]
  simp
theorem symsB_all {l : List S71} (h1 : ∀ x ∈ l, symOk x = true) (h2 : (l.map (·.f0)).Nodup) : symsB l = decide (l.length ≤ 24) := by
  unfold symsB
  rw [List.all_eq_true.2 h1, decide_eq_true h2]; rfl
theorem rdY_at {l : List S71} {j : Nat} (h : j < l.length) : rd_T71 l (j : Int) = l[j] := by simp [rd_T71, List.getD_eq_getElem?_getD, List.getElem?_eq_getElem h]
set_option maxHeartbeats 8000000 in
set_option maxRecDepth 100000 in
theorem tsyms_calls (l : List S71) (A : Option Addr) (c : Nat) (w : World) (hC : Kd.C k71 w A l.length l) (hl : l.length ≤ 1000000) :
    Calls Tryz.prog 38 #[.slice A l.length c] w fun E w' => E = .returned (.bool (symsB l)) ∧ Below w.heap.size w w' := by
  have hmm := @run_makeMap Tryz.prog
  have HLEN := Aside0.mk hl
  have HC := Aside0.mk hC
  have HM0 := Aside0.mk (mapIs_new w Value.string Value.bool sdom)
  have HB0 := Aside0.mk (below_alloc (Below.refl w.heap.size w) (.map #[] 0))
  clear hC hl
  go_enter Tryz.func38, Tryz.ntmps38
  go_upto_region 2 with (fail)
  generalize w.alloc (.map #[] 0) = W1 at *
  go_wp2
  clear hmm
  go_loopg [9] l.length (fun gg v9 wi => ∃ (j : Nat), j ≤ l.length ∧ l.length - j ≤ gg ∧ v9 = .int .i64 j ∧ Aside0 (Below w.heap.size w wi) ∧ Aside0 (MapIs wi w.heap.size Value.string Value.bool sdom (tru ((l.take j).map (·.f0)))) ∧ Aside0 (∀ x ∈ l.take j, symOk x = true))
  case atStart => exact ⟨0, by omega, by omega, rfl, HB0, HM0, ⟨fun x hx => by simp at hx⟩⟩
  case round =>
    clear HB0 HM0
    obtain ⟨j, hj, hgg, rfl, HB, HM, HOK⟩ := hrel
    by_cases hlt : j < l.length
    · have hltz : (j : Int) < (l.length : Int) := by omega
      obtain ⟨ad, e, hx0, hx1⟩ := at_T71 HC.out (j : Int) (by omega) hltz
      subst e
      rw [rdY_at hlt] at hx0 hx1
      rw [Int.toNat_natCast] at hx0 hx1
      replace hx0 := ((HB.out).cell (World.block_lt_of_cell? w _ hx0)).trans hx0
      replace hx1 := ((HB.out).cell (World.block_lt_of_cell? w _ hx1)).trans hx1
      have HBAD := Aside0.mk (fun h => symsB_bad (List.getElem_mem hlt) h)
      have HTW := Aside0.mk (fun h => symsB_twice hlt h)
      have HTK := Aside0.mk (takeS hlt)
      generalize l[j] = u at *
      go_upto_region 5 with (fail)
      have HB5 := Aside0.mk (below_alloc HB.out (.cells #[.string u.f0, .int .i64 u.f1] 71))
      have HX5 := Aside0.mk (blk_new wr (.cells #[.string u.f0, .int .i64 u.f1] 71))
      have HM5 := Aside0.mk (HM.out.below (below_alloc (Below.refl _ _) (.cells #[.string u.f0, .int .i64 u.f1] 71)))
      clear HB HM hx0 hx1
      generalize (wr.alloc (.cells #[.string u.f0, .int .i64 u.f1] 71)) = w5 at *
      generalize wr.heap.size = b7 at *
      have hb0 : w5.cell? ⟨b7, 0, none⟩ = some (.string u.f0) := (blk_cell HX5.out 0).trans rfl
      go_wp2_with fail
      refine (name_calls u.f0 w5).mono ?_
      rintro E w6 ⟨rfl, hb⟩
      have HB6 := Aside0.mk (below_then HB5.out (HB5.out).size hb)
      have HX6 := Aside0.mk (blk_below HX5.out hb)
      have HM6 := Aside0.mk (HM5.out.below hb)
      clear hb hb0 HB5 HX5 HM5
      cases q : nameB u.f0 with
      | false =>
        have HF := Aside0.mk (HBAD.out (by unfold symOk; rw [q]; rfl))
        clear q
        go_wp2
        go_ret
        exact ⟨by rw [HF.out]; rfl, HB6.out⟩
      | true =>
      have HN := Aside0.mk q
      clear q
      have hb0 : w6.cell? ⟨b7, 0, none⟩ = some (.string u.f0) := (blk_cell HX6.out 0).trans rfl
      have hb1 : w6.cell? ⟨b7, 1, none⟩ = some (.int .i64 u.f1) := (blk_cell HX6.out 1).trans rfl
      have hl := MapIs.look HM6.out keyStr Tryz.underlying59 (zero4 w6) (name_dom HN.out) false
      by_cases hm : u.f0 ∈ (l.take j).map (·.f0)
      · rw [mget_tru_mem hm] at hl
        simp only [Bool.false_eq_true, if_false] at hl
        have HF := Aside0.mk (HTW.out hm)
        clear hm
        go_wp2
        go_ret
        exact ⟨by rw [HF.out]; rfl, HB6.out⟩
      have HNM := Aside0.mk hm
      rw [mget_tru_not hm] at hl
      simp only [Bool.false_eq_true, if_false] at hl
      clear hm
      by_cases h1 : u.f1 < 0
      · have HF := Aside0.mk (HBAD.out (by unfold symOk; rw [decide_eq_false (show ¬ 0 ≤ u.f1 by omega)]; simp))
        go_wp2
        go_ret
        exact ⟨by rw [HF.out]; rfl, HB6.out⟩
      by_cases h2 : u.f1 > 4
      · have HF := Aside0.mk (HBAD.out (by unfold symOk; rw [decide_eq_false (show ¬ u.f1 ≤ 4 by omega)]; simp))
        go_wp2
        go_ret
        exact ⟨by rw [HF.out]; rfl, HB6.out⟩
      have HOU := Aside0.mk (show symOk u = true by unfold symOk; rw [HN.out, decide_eq_true (show 0 ≤ u.f1 by omega), decide_eq_true (show u.f1 ≤ 4 by omega)]; rfl)
      obtain ⟨w7, hput, HM7, hg7⟩ := MapIs.put HM6.out keyStr Tryz.underlying59 (name_dom HN.out) true
      rw [mput_new (by rw [tru_keys]; exact HNM.out)] at HM7
      have HM7 := Aside0.mk (show MapIs w7 w.heap.size Value.string Value.bool sdom (tru ((l.take (j + 1)).map (·.f0))) by rw [HTK.out, List.map_append]; unfold tru at HM7 ⊢; rw [List.map_append]; exact HM7)
      have HB7 := Aside0.mk (pw_below_grown HB6.out _ (HB6.out).size hg7 (fun k hk => by cases hk; exact Nat.le_refl _))
      have HA7 := Aside0.mk (show ∀ x ∈ l.take (j + 1), symOk x = true from fun x hx => by
        rw [HTK.out] at hx
        rcases List.mem_append.1 hx with hx | hx
        · exact HOK.out x hx
        · obtain rfl := List.mem_singleton.1 hx; exact HOU.out)
      clear hg7
      go_wp2
      go_roundg (l.length - (j + 1))
      case measure => omega
      case rel => exact ⟨j + 1, by omega, by omega, by rw [wrap_succ (by omega) (by have := HLEN.out; omega)]; rfl, HB7, HM7, HA7⟩
    · have hltz : ¬ (j : Int) < (l.length : Int) := by omega
      have hje : j = l.length := by omega
      subst hje
      rw [List.take_length] at HM HOK
      have HV := Aside0.mk (symsB_all HOK.out (by have := (HM.out).2.1; rw [tru_keys] at this; exact this))
      go_wp2
      go_ret
      exact ⟨by rw [HV.out, show decide ((l.length : Int) ≤ 24) = decide (l.length ≤ 24) from decide_eq_decide.2 (by omega)]; rfl, HB.out⟩
end Go.Proofs.YthflpbgloeimfaaGreatDoor.H
