/- What schemeGet_calls, handed_and_shaped, own, laidOut, laid7, mx_of_shaped, arg_scheme needs, out of my texts, by a program (slim.py). -/
import Derived.Test.YthflpbgloeimfaaGreatDoorSG0
namespace Go.Proofs.YthflpbgloeimfaaGreatDoor.Q
open Go.RowKit Go.Proofs.YthflpbgloeimfaaGreatDoorW.PrintWords Go.Proofs.YthflpbgloeimfaaGreatDoorW.PrintLast Go.Proofs.YthflpbgloeimfaaGreatDoorW.PrintMore
attribute [local go_sem] max2_int min2_int max_two min_two max_three min_three max_four min_four
set_option linter.unusedVariables false
set_option linter.unusedSimpArgs false
mutual
def virgationref03_index.l0 : Nat → Bool → ByteArray → Int → List (S71) → List (S52) → Option (Int)
 | 0, _, _, _, _, _ => none
 | k + 1, x1, x2, x7, x151000, x151001 => if x1 = true then (virgationref03_index.j1 k x1 x2 x7 (decide (x7 < (x151000.length : Int))) x151000 x151001) else (virgationref03_index.j1 k x1 x2 x7 false x151000 x151001)
def virgationref03_index.j1 : Nat → Bool → ByteArray → Int → Bool → List (S71) → List (S52) → Option (Int)
 | 0, _, _, _, _, _, _ => none
 | k + 1, x1, x2, x7, x16, x151000, x151001 => if x16 = true then (if 0 ≤ x7 then (if x7 < (x151000.length : Int) then (if ((rd_T71 x151000 x7).f0).toList = x2.toList then (some x7) else (virgationref03_index.l0 k x1 x2 (wrap64 (x7 + 1)) x151000 x151001)) else (none)) else (none)) else (virgationref03_index.l1 k x1 x2 0 x151000 x151001)
def virgationref03_index.l1 : Nat → Bool → ByteArray → Int → List (S71) → List (S52) → Option (Int)
 | 0, _, _, _, _, _ => none
 | k + 1, x1, x2, x8, x151000, x151001 => if x1 = true then (virgationref03_index.j3 k x1 x2 x8 false x151000 x151001) else (virgationref03_index.j3 k x1 x2 x8 (decide (x8 < (x151001.length : Int))) x151000 x151001)
def virgationref03_index.j3 : Nat → Bool → ByteArray → Int → Bool → List (S71) → List (S52) → Option (Int)
 | 0, _, _, _, _, _, _ => none
 | k + 1, x1, x2, x8, x36, x151000, x151001 => if x36 = true then (if 0 ≤ x8 then (if x8 < (x151001.length : Int) then (if ((rd_T52 x151001 x8).f0).toList = x2.toList then (some x8) else (virgationref03_index.l1 k x1 x2 (wrap64 (x8 + 1)) x151000 x151001)) else (none)) else (none)) else (some (-1))
end
def virgationref03_index.f (k : Nat) (l0_0 : List (S71)) (l0_1 : List (S52)) (a1 : Bool) (a2 : ByteArray) : Option (Int) := virgationref03_index.l0 k a1 a2 0 l0_0 l0_1
set_option maxHeartbeats 8000000 in
set_option maxRecDepth 100000 in
theorem virgationref03_index.calls (k : Nat) (A0_0 : Option Addr) (c0_0 : Nat) (l0_0 : List (S71)) (A0_1 : Option Addr) (c0_1 : Nat) (l0_1 : List (S52)) (a1 : Bool) (a2 : ByteArray) (r : Int) (w : World) (hr0_0 : Kd.C k71 w A0_0 l0_0.length l0_0) (hc0_0 : l0_0.length ≤ c0_0) (hr0_1 : Kd.C k52 w A0_1 l0_1.length l0_1) (hc0_1 : l0_1.length ≤ c0_1) (h : virgationref03_index.f k l0_0 l0_1 a1 a2 = some r) :
  Calls Tryz.prog 133 #[.agg #[.slice A0_0 l0_0.length c0_0, .slice A0_1 l0_1.length c0_1], .bool a1, .string a2] w fun e w' => e = .returned (.int .i64 r) ∧ Below w.heap.size w w' := by
 have hu25 := Tryz.underlying25
 have HR0_0 := mk0 hr0_0
 have HC0_0 := mk0 hc0_0
 clear hr0_0 hc0_0
 have HR0_1 := mk0 hr0_1
 have HC0_1 := mk0 hc0_1
 clear hr0_1 hc0_1
 have HB := mk0 (Below.refl w.heap.size w)
 have H : (virgationref03_index.l0 k a1 a2 0 l0_0 l0_1) = some r := h
 clear h
 have H' := mk0 H
 clear H
 go_enter Tryz.func133, Tryz.ntmps133
 go_wp2_with (first | ((with_reducible refine gate_dst (N := 3) rfl ?_); (try (refine gate_guard (by rfl) ?_; dsimp only)); refine box_event ?hg (N := 3) ?hd (cs := #[.slice A0_0 l0_0.length c0_0, .slice A0_1 l0_1.length c0_1]) (t := 25) ?hr ?_; (case hd => rfl); (case hg => rfl); (case hr => first | (go_simp; done) | (go_simp; rfl)); intro gb150 hg w4 hbox hb; have n0_ := mk0 (aP_ (by repeat (first | (with_reducible first | exact HB.out | apply aA_ | apply aB_ | apply aD_) | exact HB.out)) hb); have n1_ := mk0 (hbox); have n2_ := mk0 ((by rw [hg]; exact (aM_ (by repeat (first | (with_reducible first | exact HB.out | apply aA_ | apply aB_ | apply aD_) | exact HB.out))) : w.heap.size ≤ gb150)); have n3_ := mk0 ((by rw [hg]; exact (aM_ (by repeat (first | (with_reducible first | exact HB.out | apply aA_ | apply aB_ | apply aD_) | exact HB.out))) : w.heap.size ≤ gb150)); clear HB; have HB := n0_; have BK150 := n1_; have GW150 := n2_; have GE150 := n3_; clear n0_ n1_ n2_ n3_; clear hb hbox hg))
 go_loopg [7] k (fun kq v7 w' => ∃ (x7_1 : Int), v7 = .int .i64 x7_1 ∧ Aside0 (virgationref03_index.l0 kq a1 a2 x7_1 l0_0 l0_1 = some r) ∧ Aside0 (kq ≤ k) ∧ Aside0 (w'.heap[gb150]? = some (.cells #[(.slice A0_0 l0_0.length c0_0), (.slice A0_1 l0_1.length c0_1)] 25 (0, 0))) ∧ Aside0 (Below w.heap.size w w'))
 case atStart => exact ⟨(0), (by first | rfl | (simp; done) | (simp [*]; done)), H', ⟨Nat.le_refl _⟩, ⟨by (with_reducible repeat (first | refine aH_ ?_ _ | refine aK_ ?_ | refine aE_ ?_ _)); exact BK150.out⟩, ⟨by repeat (first | (with_reducible first | exact HB.out | apply aA_ | apply aB_ | apply aD_ | refine aG_ ?_ GE150.out) | exact HB.out)⟩⟩
 case round =>
  clear H'
  try clear c1
  try clear p2
  obtain ⟨x7_1, rfl, HA, HK1, BK150, HB⟩ := hrel
  cases gk with
  | zero => exact absurd HA.out (by simp [virgationref03_index.l0])
  | succ k1 =>
   have H := HA.out
   clear HA
   simp only [virgationref03_index.l0] at H
   have HC5 := mk0 H
   clear H
   go_upto_region 2 with (fail)
   go_cut [16] (fun v16 wc => ∃ (kq : Nat) (x16_4 : Bool), v16 = .bool x16_4 ∧ Aside0 (virgationref03_index.j1 kq a1 a2 x7_1 x16_4 l0_0 l0_1 = some r) ∧ Aside0 (kq ≤ k1) ∧ Aside0 (wc.heap[gb150]? = some (.cells #[(.slice A0_0 l0_0.length c0_0), (.slice A0_1 l0_1.length c0_1)] 25 (0, 0))) ∧ Aside0 (Below w.heap.size w wc))
   case first =>
    have H := HC5.out
    clear HC5
    by_cases c6 : a1 = true
    ·subst c6
     have H1 : (virgationref03_index.j1 k1 true a2 x7_1 (decide (x7_1 < (l0_0.length : Int))) l0_0 l0_1) = some r := by rw [if_pos rfl] at H; exact H
     clear H
     have H := H1
     clear H1
     have H' := mk0 H
     clear H
     have hcz7_0 : wr.cell? ⟨gb150, 0, none⟩ = some (.slice A0_0 l0_0.length c0_0) := (aC_ BK150.out 0).trans rfl
     have hcz7_1 : wr.cell? ⟨gb150, 1, none⟩ = some (.slice A0_1 l0_1.length c0_1) := (aC_ BK150.out 1).trans rfl
     have hfz7_0 := aF_ BK150.out 0
     have hfz7_1 := aF_ BK150.out 1
     go_wp2
     go_meet
     case rel => exact ⟨_, (decide (x7_1 < (l0_0.length : Int))), (by first | rfl | (simp; done) | (simp [*]; done)), H', ⟨by have := HK1.out; first | omega | exact Nat.le_refl _⟩, ⟨by (with_reducible repeat (first | refine aH_ ?_ _ | refine aK_ ?_ | refine aE_ ?_ _)); exact BK150.out⟩, ⟨by repeat (first | (with_reducible first | exact HB.out | apply aA_ | apply aB_ | apply aD_ | refine aG_ ?_ GE150.out) | exact HB.out)⟩⟩
    ·replace c6 := Bool.eq_false_iff.mpr c6
     subst c6
     have H1 : (virgationref03_index.j1 k1 false a2 x7_1 false l0_0 l0_1) = some r := by rw [if_neg (show ¬ (false = true) by decide)] at H; exact H
     clear H
     have H := H1
     clear H1
     have H' := mk0 H
     clear H
     go_wp2
     go_meet
     case rel => exact ⟨_, (false), (by first | rfl | (simp; done) | (simp [*]; done)), H', ⟨by have := HK1.out; first | omega | exact Nat.le_refl _⟩, ⟨by (with_reducible repeat (first | refine aH_ ?_ _ | refine aK_ ?_ | refine aE_ ?_ _)); exact BK150.out⟩, ⟨by repeat (first | (with_reducible first | exact HB.out | apply aA_ | apply aB_ | apply aD_ | refine aG_ ?_ GE150.out) | exact HB.out)⟩⟩
   case rest =>
    clear HC5
    try clear c1
    try clear p2
    try clear c6
    try clear hcz7_0
    try clear hcz7_1
    try clear hfz7_0
    try clear hfz7_1
    try clear p2
    obtain ⟨kq, x16_4, rfl, HA, HJ4, BK150, HB⟩ := hcut
    cases kq with
    | zero => exact absurd HA.out (by simp [virgationref03_index.j1])
    | succ kj4 =>
     have H := HA.out
     clear HA
     simp only [virgationref03_index.j1] at H
     by_cases c8 : x16_4 = true
     ·subst c8
      have H1 : (if 0 ≤ x7_1 then (if x7_1 < (l0_0.length : Int) then (if ((rd_T71 l0_0 x7_1).f0).toList = a2.toList then (some x7_1) else (virgationref03_index.l0 kj4 a1 a2 (wrap64 (x7_1 + 1)) l0_0 l0_1)) else (none)) else (none)) = some r := by rw [if_pos rfl] at H; exact H
      clear H
      have H := H1
      clear H1
      by_cases c9 : 0 ≤ x7_1
      ·rw [if_pos c9] at H
       have c9b0 : decide (0 ≤ x7_1) = true := l2_ c9
       clear c9
       by_cases c10 : x7_1 < (l0_0.length : Int)
       ·rw [if_pos c10] at H
        have c10b0 : decide (x7_1 < (l0_0.length : Int)) = true := l2_ c10
        clear c10
        by_cases c11 : ((rd_T71 l0_0 x7_1).f0).toList = a2.toList
        ·rw [if_pos c11] at H
         have c11b0 : (((rd_T71 l0_0 x7_1).f0).toList == a2.toList) = true := beq_iff_eq.mpr c11
         have c11b1 : (((rd_T71 l0_0 x7_1).f0).toList != a2.toList) = false := bne_eq_false_iff_eq.mpr c11
         clear c11
         obtain rfl := l13_ H
         have hcz12_0 : wc.cell? ⟨gb150, 0, none⟩ = some (.slice A0_0 l0_0.length c0_0) := (aC_ BK150.out 0).trans rfl
         have hcz12_1 : wc.cell? ⟨gb150, 1, none⟩ = some (.slice A0_1 l0_1.length c0_1) := (aC_ BK150.out 1).trans rfl
         have hfz12_0 := aF_ BK150.out 0
         have hfz12_1 := aF_ BK150.out 1
         have p151 : 0 ≤ (x7_1 : Int) := l0_ (by first | (with_reducible assumption) | assumption)
         have q151 : x7_1 < (l0_0.length : Int) := l0_ (by first | (with_reducible assumption) | assumption)
         obtain ⟨ad151, e151, hx151_0, hx151_1⟩ := at_T71 HR0_0.out x7_1 p151 q151
         cases e151
         replace hx151_0 := (HB.out.cell (l1_ w _ hx151_0)).trans hx151_0
         replace hx151_1 := (HB.out.cell (l1_ w _ hx151_1)).trans hx151_1
         replace p151 := eq_true p151
         replace q151 := eq_true q151
         go_wp2
         go_ret
         exact ⟨by first | rfl | (simp [aR_, aQ_] <;> rfl) | (simp [*, aR_, aQ_] <;> rfl), by repeat (first | (with_reducible first | exact HB.out | apply aA_ | apply aB_ | apply aD_ | refine aG_ ?_ GE150.out) | exact HB.out)⟩
        ·rw [if_neg c11] at H
         have c11b0 : (((rd_T71 l0_0 x7_1).f0).toList == a2.toList) = false := beq_eq_false_iff_ne.mpr c11
         have c11b1 : (((rd_T71 l0_0 x7_1).f0).toList != a2.toList) = true := bne_iff_ne.mpr c11
         have H' := mk0 H
         clear H
         have hcz13_0 : wc.cell? ⟨gb150, 0, none⟩ = some (.slice A0_0 l0_0.length c0_0) := (aC_ BK150.out 0).trans rfl
         have hcz13_1 : wc.cell? ⟨gb150, 1, none⟩ = some (.slice A0_1 l0_1.length c0_1) := (aC_ BK150.out 1).trans rfl
         have hfz13_0 := aF_ BK150.out 0
         have hfz13_1 := aF_ BK150.out 1
         have p151 : 0 ≤ (x7_1 : Int) := l0_ (by first | (with_reducible assumption) | assumption)
         have q151 : x7_1 < (l0_0.length : Int) := l0_ (by first | (with_reducible assumption) | assumption)
         obtain ⟨ad151, e151, hx151_0, hx151_1⟩ := at_T71 HR0_0.out x7_1 p151 q151
         cases e151
         replace hx151_0 := (HB.out.cell (l1_ w _ hx151_0)).trans hx151_0
         replace hx151_1 := (HB.out.cell (l1_ w _ hx151_1)).trans hx151_1
         replace p151 := eq_true p151
         replace q151 := eq_true q151
         go_wp2
         go_roundg kj4
         case measure => have := HK1.out; have := HJ4.out; omega
         case rel => exact ⟨(wrap64 (x7_1 + 1)), (by first | rfl | (simp; done) | (simp [*]; done)), H', ⟨by have := HK1.out; have := HJ4.out; omega⟩, ⟨by (with_reducible repeat (first | refine aH_ ?_ _ | refine aK_ ?_ | refine aE_ ?_ _)); exact BK150.out⟩, ⟨by repeat (first | (with_reducible first | exact HB.out | apply aA_ | apply aB_ | apply aD_ | refine aG_ ?_ GE150.out) | exact HB.out)⟩⟩
       ·rw [if_neg c10] at H
        exact absurd H (by simp)
      ·rw [if_neg c9] at H
       exact absurd H (by simp)
     ·replace c8 := Bool.eq_false_iff.mpr c8
      subst c8
      have H1 : (virgationref03_index.l1 kj4 a1 a2 0 l0_0 l0_1) = some r := by rw [if_neg (show ¬ (false = true) by decide)] at H; exact H
      clear H
      have H := H1
      clear H1
      have H' := mk0 H
      clear H
      go_wp2
      go_loopg [8] kj4 (fun kq v8 w' => ∃ (x8_3 : Int), v8 = .int .i64 x8_3 ∧ Aside0 (virgationref03_index.l1 kq a1 a2 x8_3 l0_0 l0_1 = some r) ∧ Aside0 (kq ≤ kj4) ∧ Aside0 (w'.heap[gb150]? = some (.cells #[(.slice A0_0 l0_0.length c0_0), (.slice A0_1 l0_1.length c0_1)] 25 (0, 0))) ∧ Aside0 (Below w.heap.size w w'))
      case atStart => exact ⟨(0), (by first | rfl | (simp; done) | (simp [*]; done)), H', ⟨Nat.le_refl _⟩, ⟨by (with_reducible repeat (first | refine aH_ ?_ _ | refine aK_ ?_ | refine aE_ ?_ _)); exact BK150.out⟩, ⟨by repeat (first | (with_reducible first | exact HB.out | apply aA_ | apply aB_ | apply aD_ | refine aG_ ?_ GE150.out) | exact HB.out)⟩⟩
      case round =>
       clear H'
       try clear c1
       try clear p1
       try clear q1
       try clear hx1
       try clear p2
       try clear c6
       try clear p6
       try clear c8
       try clear c9
       try clear c9b0
       try clear c10
       try clear c10b0
       try clear c11
       try clear c11b0
       try clear c11b1
       try clear c13
       try clear hcz12_0
       try clear hcz12_1
       try clear hcz13_0
       try clear hcz13_1
       try clear hcz7_0
       try clear hcz7_1
       try clear hfz12_0
       try clear hfz12_1
       try clear hfz13_0
       try clear hfz13_1
       try clear hfz7_0
       try clear hfz7_1
       try clear hx151_0
       try clear hx151_1
       try clear p151
       try clear p2
       try clear q151
       obtain ⟨x8_3, rfl, HA, HK3, BK150, HB⟩ := hrel
       cases gk with
       | zero => exact absurd HA.out (by simp [virgationref03_index.l1])
       | succ k3 =>
        have H := HA.out
        clear HA
        simp only [virgationref03_index.l1] at H
        have HC14 := mk0 H
        clear H
        go_upto_region 7 with (fail)
        go_cut [36] (fun v36 wc => ∃ (kq : Nat) (x36_13 : Bool), v36 = .bool x36_13 ∧ Aside0 (virgationref03_index.j3 kq a1 a2 x8_3 x36_13 l0_0 l0_1 = some r) ∧ Aside0 (kq ≤ k3) ∧ Aside0 (wc.heap[gb150]? = some (.cells #[(.slice A0_0 l0_0.length c0_0), (.slice A0_1 l0_1.length c0_1)] 25 (0, 0))) ∧ Aside0 (Below w.heap.size w wc))
        case first =>
         have H := HC14.out
         clear HC14
         by_cases c15 : a1 = true
         ·subst c15
          have H1 : (virgationref03_index.j3 k3 true a2 x8_3 false l0_0 l0_1) = some r := by rw [if_pos rfl] at H; exact H
          clear H
          have H := H1
          clear H1
          have H' := mk0 H
          clear H
          go_wp2
          go_meet
          case rel => exact ⟨_, (false), (by first | rfl | (simp; done) | (simp [*]; done)), H', ⟨by have := HK1.out; have := HJ4.out; have := HK3.out; first | omega | exact Nat.le_refl _⟩, ⟨by (with_reducible repeat (first | refine aH_ ?_ _ | refine aK_ ?_ | refine aE_ ?_ _)); exact BK150.out⟩, ⟨by repeat (first | (with_reducible first | exact HB.out | apply aA_ | apply aB_ | apply aD_ | refine aG_ ?_ GE150.out) | exact HB.out)⟩⟩
         ·replace c15 := Bool.eq_false_iff.mpr c15
          subst c15
          have H1 : (virgationref03_index.j3 k3 false a2 x8_3 (decide (x8_3 < (l0_1.length : Int))) l0_0 l0_1) = some r := by rw [if_neg (show ¬ (false = true) by decide)] at H; exact H
          clear H
          have H := H1
          clear H1
          have H' := mk0 H
          clear H
          have hcz16_0 : wr.cell? ⟨gb150, 0, none⟩ = some (.slice A0_0 l0_0.length c0_0) := (aC_ BK150.out 0).trans rfl
          have hcz16_1 : wr.cell? ⟨gb150, 1, none⟩ = some (.slice A0_1 l0_1.length c0_1) := (aC_ BK150.out 1).trans rfl
          have hfz16_0 := aF_ BK150.out 0
          have hfz16_1 := aF_ BK150.out 1
          go_wp2
          go_meet
          case rel => exact ⟨_, (decide (x8_3 < (l0_1.length : Int))), (by first | rfl | (simp; done) | (simp [*]; done)), H', ⟨by have := HK1.out; have := HJ4.out; have := HK3.out; first | omega | exact Nat.le_refl _⟩, ⟨by (with_reducible repeat (first | refine aH_ ?_ _ | refine aK_ ?_ | refine aE_ ?_ _)); exact BK150.out⟩, ⟨by repeat (first | (with_reducible first | exact HB.out | apply aA_ | apply aB_ | apply aD_ | refine aG_ ?_ GE150.out) | exact HB.out)⟩⟩
        case rest =>
         clear HC14
         try clear c1
         try clear p1
         try clear q1
         try clear hx1
         try clear p2
         try clear c6
         try clear p6
         try clear c8
         try clear c9
         try clear c9b0
         try clear c10
         try clear c10b0
         try clear c11
         try clear c11b0
         try clear c11b1
         try clear c13
         try clear c15
         try clear p15
         try clear q15
         try clear hx15
         try clear hcz12_0
         try clear hcz12_1
         try clear hcz13_0
         try clear hcz13_1
         try clear hcz16_0
         try clear hcz16_1
         try clear hcz7_0
         try clear hcz7_1
         try clear hfz12_0
         try clear hfz12_1
         try clear hfz13_0
         try clear hfz13_1
         try clear hfz16_0
         try clear hfz16_1
         try clear hfz7_0
         try clear hfz7_1
         try clear hx151_0
         try clear hx151_1
         try clear p1
         try clear p151
         try clear p2
         try clear p6
         try clear q1
         try clear q151
         obtain ⟨kq, x36_13, rfl, HA, HJ13, BK150, HB⟩ := hcut
         cases kq with
         | zero => exact absurd HA.out (by simp [virgationref03_index.j3])
         | succ kj13 =>
          have H := HA.out
          clear HA
          simp only [virgationref03_index.j3] at H
          by_cases c17 : x36_13 = true
          ·subst c17
           have H1 : (if 0 ≤ x8_3 then (if x8_3 < (l0_1.length : Int) then (if ((rd_T52 l0_1 x8_3).f0).toList = a2.toList then (some x8_3) else (virgationref03_index.l1 kj13 a1 a2 (wrap64 (x8_3 + 1)) l0_0 l0_1)) else (none)) else (none)) = some r := by rw [if_pos rfl] at H; exact H
           clear H
           have H := H1
           clear H1
           by_cases c18 : 0 ≤ x8_3
           ·rw [if_pos c18] at H
            have c18b0 : decide (0 ≤ x8_3) = true := l2_ c18
            clear c18
            by_cases c19 : x8_3 < (l0_1.length : Int)
            ·rw [if_pos c19] at H
             have c19b0 : decide (x8_3 < (l0_1.length : Int)) = true := l2_ c19
             clear c19
             by_cases c20 : ((rd_T52 l0_1 x8_3).f0).toList = a2.toList
             ·rw [if_pos c20] at H
              have c20b0 : (((rd_T52 l0_1 x8_3).f0).toList == a2.toList) = true := beq_iff_eq.mpr c20
              have c20b1 : (((rd_T52 l0_1 x8_3).f0).toList != a2.toList) = false := bne_eq_false_iff_eq.mpr c20
              clear c20
              obtain rfl := l13_ H
              have hcz21_0 : wc.cell? ⟨gb150, 0, none⟩ = some (.slice A0_0 l0_0.length c0_0) := (aC_ BK150.out 0).trans rfl
              have hcz21_1 : wc.cell? ⟨gb150, 1, none⟩ = some (.slice A0_1 l0_1.length c0_1) := (aC_ BK150.out 1).trans rfl
              have hfz21_0 := aF_ BK150.out 0
              have hfz21_1 := aF_ BK150.out 1
              have p152 : 0 ≤ (x8_3 : Int) := l0_ (by first | (with_reducible assumption) | assumption)
              have q152 : x8_3 < (l0_1.length : Int) := l0_ (by first | (with_reducible assumption) | assumption)
              obtain ⟨ad152, A152_1, c152_1, A152_4, c152_4, e152, hx152_0, hx152_1, hx152_2, hx152_3, hx152_4, hl152_1, hi152_1, hl152_4, hi152_4⟩ := at_T52 HR0_1.out x8_3 p152 q152
              cases e152
              replace hx152_0 := (HB.out.cell (l1_ w _ hx152_0)).trans hx152_0
              replace hx152_1 := (HB.out.cell (l1_ w _ hx152_1)).trans hx152_1
              replace hx152_2 := (HB.out.cell (l1_ w _ hx152_2)).trans hx152_2
              replace hx152_3 := (HB.out.cell (l1_ w _ hx152_3)).trans hx152_3
              replace hx152_4 := (HB.out.cell (l1_ w _ hx152_4)).trans hx152_4
              have HR152_1 := mk0 hi152_1
              have HC152_1 := mk0 hl152_1
              clear hi152_1 hl152_1
              have HR152_4 := mk0 hi152_4
              have HC152_4 := mk0 hl152_4
              clear hi152_4 hl152_4
              replace p152 := eq_true p152
              replace q152 := eq_true q152
              go_wp2
              go_ret
              exact ⟨by first | rfl | (simp [aR_, aQ_] <;> rfl) | (simp [*, aR_, aQ_] <;> rfl), by repeat (first | (with_reducible first | exact HB.out | apply aA_ | apply aB_ | apply aD_ | refine aG_ ?_ GE150.out) | exact HB.out)⟩
             ·rw [if_neg c20] at H
              have c20b0 : (((rd_T52 l0_1 x8_3).f0).toList == a2.toList) = false := beq_eq_false_iff_ne.mpr c20
              have c20b1 : (((rd_T52 l0_1 x8_3).f0).toList != a2.toList) = true := bne_iff_ne.mpr c20
              have H' := mk0 H
              clear H
              have hcz22_0 : wc.cell? ⟨gb150, 0, none⟩ = some (.slice A0_0 l0_0.length c0_0) := (aC_ BK150.out 0).trans rfl
              have hcz22_1 : wc.cell? ⟨gb150, 1, none⟩ = some (.slice A0_1 l0_1.length c0_1) := (aC_ BK150.out 1).trans rfl
              have hfz22_0 := aF_ BK150.out 0
              have hfz22_1 := aF_ BK150.out 1
              have p152 : 0 ≤ (x8_3 : Int) := l0_ (by first | (with_reducible assumption) | assumption)
              have q152 : x8_3 < (l0_1.length : Int) := l0_ (by first | (with_reducible assumption) | assumption)
              obtain ⟨ad152, A152_1, c152_1, A152_4, c152_4, e152, hx152_0, hx152_1, hx152_2, hx152_3, hx152_4, hl152_1, hi152_1, hl152_4, hi152_4⟩ := at_T52 HR0_1.out x8_3 p152 q152
              cases e152
              replace hx152_0 := (HB.out.cell (l1_ w _ hx152_0)).trans hx152_0
              replace hx152_1 := (HB.out.cell (l1_ w _ hx152_1)).trans hx152_1
              replace hx152_2 := (HB.out.cell (l1_ w _ hx152_2)).trans hx152_2
              replace hx152_3 := (HB.out.cell (l1_ w _ hx152_3)).trans hx152_3
              replace hx152_4 := (HB.out.cell (l1_ w _ hx152_4)).trans hx152_4
              have HR152_1 := mk0 hi152_1
              have HC152_1 := mk0 hl152_1
              clear hi152_1 hl152_1
              have HR152_4 := mk0 hi152_4
              have HC152_4 := mk0 hl152_4
              clear hi152_4 hl152_4
              replace p152 := eq_true p152
              replace q152 := eq_true q152
              go_wp2
              go_roundg kj13
              case measure => have := HK1.out; have := HJ4.out; have := HK3.out; have := HJ13.out; omega
              case rel => exact ⟨(wrap64 (x8_3 + 1)), (by first | rfl | (simp; done) | (simp [*]; done)), H', ⟨by have := HK1.out; have := HJ4.out; have := HK3.out; have := HJ13.out; omega⟩, ⟨by (with_reducible repeat (first | refine aH_ ?_ _ | refine aK_ ?_ | refine aE_ ?_ _)); exact BK150.out⟩, ⟨by repeat (first | (with_reducible first | exact HB.out | apply aA_ | apply aB_ | apply aD_ | refine aG_ ?_ GE150.out) | exact HB.out)⟩⟩
            ·rw [if_neg c19] at H
             exact absurd H (by simp)
           ·rw [if_neg c18] at H
            exact absurd H (by simp)
          ·replace c17 := Bool.eq_false_iff.mpr c17
           subst c17
           have H1 : (some (-1)) = some r := by rw [if_neg (show ¬ (false = true) by decide)] at H; exact H
           clear H
           have H := H1
           clear H1
           obtain rfl := l13_ H
           go_wp2
           go_ret
           exact ⟨by first | rfl | (simp [aR_, aQ_] <;> rfl) | (simp [*, aR_, aQ_] <;> rfl), by repeat (first | (with_reducible first | exact HB.out | apply aA_ | apply aB_ | apply aD_ | refine aG_ ?_ GE150.out) | exact HB.out)⟩
def virgationref03_parseHead.f (k : Nat) (l0_0 : List (S71)) (l0_1 : List (S52)) (a1 : ByteArray) (a2 : Int) : Option (Int × Int × (List (S50)) × Int × Bool) := (virgationref03_begins.f a1 a2 (⟨#[36]⟩ : ByteArray)).bind fun t155 => (if t155 = true then ((virgationref03_number.f k a1 (wrap64 (a2 + 1))).bind fun bt156 => (some (0, bt156.1, ([] : List (S50)), bt156.2.1, bt156.2.2))) else ((virgationref03_begins.f a1 a2 (⟨#[35]⟩ : ByteArray)).bind fun t159 => (if t159 = true then ((virgationref03_word.f k a1 (wrap64 (a2 + 1))).bind fun t160 => (if 0 ≤ (wrap64 (a2 + 1)) then (if (wrap64 (a2 + 1)) ≤ t160 then (if t160 ≤ (a1.size : Int) then ((virgationref03_index.f k l0_0 l0_1 t159 (a1.extract ((wrap64 (a2 + 1)) : Int).toNat (t160 : Int).toNat)).bind fun t161 => (some (2, t161, ([] : List (S50)), t160, decide (t161 ≥ 0)))) else (none)) else (none)) else (none))) else ((virgationref03_word.f k a1 a2).bind fun t162 => (if 0 ≤ a2 then (if a2 ≤ t162 then (if t162 ≤ (a1.size : Int) then ((virgationref03_index.f k l0_0 l0_1 t159 (a1.extract (a2 : Int).toNat (t162 : Int).toNat)).bind fun t163 => (some (1, t163, ([] : List (S50)), t162, decide (t163 ≥ 0)))) else (none)) else (none)) else (none))))))
def virgationref03_parseHead.T10 : Bool × List (List Nat × List Nat) := (true, [([], []), ([], []), ([], []), ([], []), ([], []), ([2, 3, 4], [2, 3, 4]), ([0, 1, 5], [0, 1, 5]), ([6, 6, 0, 1, 2, 3, 4, 5, 6], [6])])
def virgationref03_parseHead.B10 : List Nat := [0, 0, 0, 0, 0, 28, 63, 127]
theorem virgationref03_parseHead.tab10 : rtab .any (opsOf Tryz.f109 10) = virgationref03_parseHead.T10 := by kernel_rfl
theorem virgationref03_parseHead.bits10 : waitsOk virgationref03_parseHead.T10.2 virgationref03_parseHead.B10 = true := by kernel_rfl
set_option maxHeartbeats 8000000 in
set_option maxRecDepth 100000 in
theorem virgationref03_parseHead.calls (k : Nat) (A0_0 : Option Addr) (c0_0 : Nat) (l0_0 : List (S71)) (A0_1 : Option Addr) (c0_1 : Nat) (l0_1 : List (S52)) (a1 : ByteArray) (a2 : Int) (r1 : Int) (r2 : Int) (r3 : List (S50)) (r4 : Int) (r5 : Bool) (w : World) (hr0_0 : Kd.C k71 w A0_0 l0_0.length l0_0) (hc0_0 : l0_0.length ≤ c0_0) (hr0_1 : Kd.C k52 w A0_1 l0_1.length l0_1) (hc0_1 : l0_1.length ≤ c0_1) (h : virgationref03_parseHead.f k l0_0 l0_1 a1 a2 = some (r1, r2, r3, r4, r5)) :
  Calls Tryz.prog 109 #[.agg #[.slice A0_0 l0_0.length c0_0, .slice A0_1 l0_1.length c0_1], .string a1, .int .i64 a2] w fun e w' => ∃ v2_ : Value, e = .returned (.tuple #[.agg #[.int .i64 r1, .int .i64 r2, v2_], .int .i64 r4, .bool r5]) ∧ Kd.R k50 50 w' w.heap.size (fun _ => True) v2_ r3 ∧ Below w.heap.size w w' := by
 have hu25 := Tryz.underlying25
 have hu50 := Tryz.underlying50
 have HR0_0 := mk0 hr0_0
 have HC0_0 := mk0 hc0_0
 clear hr0_0 hc0_0
 have HR0_1 := mk0 hr0_1
 have HC0_1 := mk0 hc0_1
 clear hr0_1 hc0_1
 have HB := mk0 (Below.refl w.heap.size w)
 have H : ((virgationref03_begins.f a1 a2 (⟨#[36]⟩ : ByteArray)).bind fun t155 => (if t155 = true then ((virgationref03_number.f k a1 (wrap64 (a2 + 1))).bind fun bt156 => (some (0, bt156.1, ([] : List (S50)), bt156.2.1, bt156.2.2))) else ((virgationref03_begins.f a1 a2 (⟨#[35]⟩ : ByteArray)).bind fun t159 => (if t159 = true then ((virgationref03_word.f k a1 (wrap64 (a2 + 1))).bind fun t160 => (if 0 ≤ (wrap64 (a2 + 1)) then (if (wrap64 (a2 + 1)) ≤ t160 then (if t160 ≤ (a1.size : Int) then ((virgationref03_index.f k l0_0 l0_1 t159 (a1.extract ((wrap64 (a2 + 1)) : Int).toNat (t160 : Int).toNat)).bind fun t161 => (some (2, t161, ([] : List (S50)), t160, decide (t161 ≥ 0)))) else (none)) else (none)) else (none))) else ((virgationref03_word.f k a1 a2).bind fun t162 => (if 0 ≤ a2 then (if a2 ≤ t162 then (if t162 ≤ (a1.size : Int) then ((virgationref03_index.f k l0_0 l0_1 t159 (a1.extract (a2 : Int).toNat (t162 : Int).toNat)).bind fun t163 => (some (1, t163, ([] : List (S50)), t162, decide (t163 ≥ 0)))) else (none)) else (none)) else (none))))))) = some (r1, r2, r3, r4, r5) := h
 clear h
 replace H := Option.bind_eq_some_iff.mp H
 obtain ⟨t155, A40, H⟩ := H
 replace H : (if t155 = true then ((virgationref03_number.f k a1 (wrap64 (a2 + 1))).bind fun bt156 => (some (0, bt156.1, ([] : List (S50)), bt156.2.1, bt156.2.2))) else ((virgationref03_begins.f a1 a2 (⟨#[35]⟩ : ByteArray)).bind fun t159 => (if t159 = true then ((virgationref03_word.f k a1 (wrap64 (a2 + 1))).bind fun t160 => (if 0 ≤ (wrap64 (a2 + 1)) then (if (wrap64 (a2 + 1)) ≤ t160 then (if t160 ≤ (a1.size : Int) then ((virgationref03_index.f k l0_0 l0_1 t159 (a1.extract ((wrap64 (a2 + 1)) : Int).toNat (t160 : Int).toNat)).bind fun t161 => (some (2, t161, ([] : List (S50)), t160, decide (t161 ≥ 0)))) else (none)) else (none)) else (none))) else ((virgationref03_word.f k a1 a2).bind fun t162 => (if 0 ≤ a2 then (if a2 ≤ t162 then (if t162 ≤ (a1.size : Int) then ((virgationref03_index.f k l0_0 l0_1 t159 (a1.extract (a2 : Int).toNat (t162 : Int).toNat)).bind fun t163 => (some (1, t163, ([] : List (S50)), t162, decide (t163 ≥ 0)))) else (none)) else (none)) else (none)))))) = some (r1, r2, r3, r4, r5) := H
 have A4 := mk0 A40
 clear A40
 by_cases c5 : t155 = true
 ·subst c5
  have H1 : ((virgationref03_number.f k a1 (wrap64 (a2 + 1))).bind fun bt156 => (some (0, bt156.1, ([] : List (S50)), bt156.2.1, bt156.2.2))) = some (r1, r2, r3, r4, r5) := by rw [if_pos rfl] at H; exact H
  clear H
  have H := H1
  clear H1
  replace H := Option.bind_eq_some_iff.mp H
  obtain ⟨⟨t156, t157, t158⟩, A60, H⟩ := H
  replace H : (some (0, t156, ([] : List (S50)), t157, t158)) = some (r1, r2, r3, r4, r5) := H
  have A6 := mk0 A60
  clear A60
  simp only [Option.some.injEq, Prod.mk.injEq] at H
  obtain ⟨rfl, rfl, rfl, rfl, rfl⟩ := H
  go_enter Tryz.func109, Tryz.ntmps109
  go_wp2_with (first | ((with_reducible refine gate_dst (N := 3) rfl ?_); refine box_event ?hg (N := 3) ?hd (cs := #[.slice A0_0 l0_0.length c0_0, .slice A0_1 l0_1.length c0_1]) (t := 25) ?hr ?_; (case hd => rfl); (case hg => rfl); (case hr => first | (go_simp; done) | (go_simp; rfl)); intro gb153 hg w7 hbox hb; have n0_ := mk0 (aP_ (by repeat (first | (with_reducible first | exact HB.out | apply aA_ | apply aB_ | apply aD_) | exact HB.out)) hb); have n1_ := mk0 (hbox); have n2_ := mk0 ((by rw [hg]; exact (aM_ (by repeat (first | (with_reducible first | exact HB.out | apply aA_ | apply aB_ | apply aD_) | exact HB.out))) : w.heap.size ≤ gb153)); have n3_ := mk0 ((by rw [hg]; exact (aM_ (by repeat (first | (with_reducible first | exact HB.out | apply aA_ | apply aB_ | apply aD_) | exact HB.out))) : w.heap.size ≤ gb153)); clear HB; have HB := n0_; have BK153 := n1_; have GW153 := n2_; have GE153 := n3_; clear n0_ n1_ n2_ n3_; clear hb hbox hg) | ((with_reducible refine gate_dst (N := 6) rfl ?_); refine box_event ?hg (N := 6) ?hd (cs := #[.int .i64 0, .int .i64 0, .slice none 0 0]) (t := 50) ?hr ?_; (case hd => rfl); (case hg => rfl); (case hr => first | (go_simp; done) | (go_simp; rfl)); intro gb154 hg w8 hbox hb; have n0_ := mk0 (aJ_ (g := gb153) (o := .cells #[.slice A0_0 l0_0.length c0_0, .slice A0_1 l0_1.length c0_1] 25 (0, 0)) (by (with_reducible repeat (first | refine aH_ ?_ _ | refine aK_ ?_ | refine aE_ ?_ _)); exact BK153.out) hb); have n1_ := mk0 (aP_ (by repeat (first | (with_reducible first | exact HB.out | apply aA_ | apply aB_ | apply aD_ | refine aG_ ?_ GE153.out) | exact HB.out)) hb); have n2_ := mk0 (hbox); have n3_ := mk0 ((by rw [hg]; exact (aM_ (by repeat (first | (with_reducible first | exact HB.out | apply aA_ | apply aB_ | apply aD_ | refine aG_ ?_ GE153.out) | exact HB.out))) : w.heap.size ≤ gb154)); have n4_ := mk0 ((by rw [hg]; exact (aM_ (by repeat (first | (with_reducible first | exact HB.out | apply aA_ | apply aB_ | apply aD_ | refine aG_ ?_ GE153.out) | exact HB.out))) : w.heap.size ≤ gb154)); have n5_ := mk0 ((by rw [hg]; exact Nat.ne_of_lt (blk_lt (g := gb153) (o := .cells #[.slice A0_0 l0_0.length c0_0, .slice A0_1 l0_1.length c0_1] 25 (0, 0)) (by (with_reducible repeat (first | refine aH_ ?_ _ | refine aK_ ?_ | refine aE_ ?_ _)); exact BK153.out)) : gb153 ≠ gb154)); have n6_ := mk0 ((by rw [hg]; exact Nat.ne_of_gt (blk_lt (g := gb153) (o := .cells #[.slice A0_0 l0_0.length c0_0, .slice A0_1 l0_1.length c0_1] 25 (0, 0)) (by (with_reducible repeat (first | refine aH_ ?_ _ | refine aK_ ?_ | refine aE_ ?_ _)); exact BK153.out)) : gb154 ≠ gb153)); clear BK153; clear HB; have BK153 := n0_; have HB := n1_; have BK154 := n2_; have GW154 := n3_; have GE154 := n4_; have NB153_154 := n5_; have NB154_153 := n6_; clear n0_ n1_ n2_ n3_ n4_ n5_ n6_; clear hb hbox hg) | ((with_reducible refine gate_callee (f := 63) rfl ?_); refine goesL_ (some 18) rfl rfl Tryz.func63 (by kernel_rfl) rfl #[.string a1, .int .i64 a2, .string (⟨#[36]⟩ : ByteArray)] rfl (by (try simp only [List.map_toArray, List.map_cons, List.map_nil]); first | done | rfl | (simp only [l9_, List.length_take]; rfl)) ?_; (with_reducible refine (virgationref03_begins.calls a1 a2 (⟨#[36]⟩ : ByteArray) true _ A4.out).mono ?_); rintro e w' ⟨rfl, ⟨nd, rfl⟩⟩; refine ⟨_, rfl, ?_⟩; (try (rw [drewN_self w8]; generalize hq_ : World.drewN w8 _ = w8; have n0_ : Aside0 (w8.heap[gb153]? = some (.cells #[.slice A0_0 l0_0.length c0_0, .slice A0_1 l0_1.length c0_1] 25 (0, 0))) := ⟨by rw [← hq_]; exact (by (with_reducible repeat (first | refine aH_ ?_ _ | refine aK_ ?_ | refine aE_ ?_ _)); exact BK153.out)⟩; have n1_ : Aside0 (w8.heap[gb154]? = some (.cells #[.int .i64 0, .int .i64 0, .slice none 0 0] 50 (0, 0))) := ⟨by rw [← hq_]; exact (by (with_reducible repeat (first | refine aH_ ?_ _ | refine aK_ ?_ | refine aE_ ?_ _)); exact BK154.out)⟩; have n2_ : Aside0 (Below w.heap.size w w8) := ⟨by rw [← hq_]; exact (by repeat (first | (with_reducible first | exact HB.out | apply aA_ | apply aB_ | apply aD_ | refine aG_ ?_ GE153.out | refine aG_ ?_ GE154.out) | exact HB.out))⟩; clear BK153 BK154 HB hq_; have BK153 := n0_; have BK154 := n1_; have HB := n2_; clear n0_ n1_ n2_))) | ((with_reducible refine gate_callee (f := 107) rfl ?_); refine goesL_ (some 23) rfl rfl Tryz.func107 (by kernel_rfl) rfl #[.string a1, .int .i64 (wrap64 (a2 + 1))] rfl (by (try simp only [List.map_toArray, List.map_cons, List.map_nil]); first | done | rfl | (simp only [l9_, List.length_take]; rfl)) ?_; (with_reducible refine (virgationref03_number.calls k a1 (wrap64 (a2 + 1)) t156 t157 t158 _ A6.out).mono ?_); rintro e w' ⟨rfl, ⟨nd, rfl⟩⟩; refine ⟨_, rfl, ?_⟩; (try (rw [drewN_self w8]; generalize hq_ : World.drewN w8 _ = w8; have n0_ : Aside0 (w8.heap[gb153]? = some (.cells #[.slice A0_0 l0_0.length c0_0, .slice A0_1 l0_1.length c0_1] 25 (0, 0))) := ⟨by rw [← hq_]; exact (by (with_reducible repeat (first | refine aH_ ?_ _ | refine aK_ ?_ | refine aE_ ?_ _)); exact BK153.out)⟩; have n1_ : Aside0 (w8.heap[gb154]? = some (.cells #[.int .i64 0, .int .i64 0, .slice none 0 0] 50 (0, 0))) := ⟨by rw [← hq_]; exact (by (with_reducible repeat (first | refine aH_ ?_ _ | refine aK_ ?_ | refine aE_ ?_ _)); exact BK154.out)⟩; have n2_ : Aside0 (Below w.heap.size w w8) := ⟨by rw [← hq_]; exact (by repeat (first | (with_reducible first | exact HB.out | apply aA_ | apply aB_ | apply aD_ | refine aG_ ?_ GE153.out | refine aG_ ?_ GE154.out) | exact HB.out))⟩; clear BK153 BK154 HB hq_; have BK153 := n0_; have BK154 := n1_; have HB := n2_; clear n0_ n1_ n2_)); have hnb9 := NB154_153.out; have hnc9 := NB153_154.out; have hcz10_0 : w8.cell? ⟨gb154, 0, none⟩ = some (.int .i64 0) := (aC_ BK154.out 0).trans rfl; have hcz10_1 : w8.cell? ⟨gb154, 1, none⟩ = some (.int .i64 0) := (aC_ BK154.out 1).trans rfl; have hcz10_2 : w8.cell? ⟨gb154, 2, none⟩ = some (.slice none 0 0) := (aC_ BK154.out 2).trans rfl; have hfz10_0 := aF_ BK154.out 0; have hfz10_1 := aF_ BK154.out 1; have hfz10_2 := aF_ BK154.out 2))
  refine bodyPost_ret (results_ctt rfl _ _ gb154 50 #[.int .i64 0, .int .i64 t156, .slice none 0 0] (0, 0) _ rfl (by (with_reducible repeat (first | refine aH_ ?_ _ | refine aK_ ?_ | refine aE_ ?_ _)); refine blk_put (cs := #[.int .i64 0, .int .i64 t156, .slice none 0 0]) ?_ 2 _ rfl; (with_reducible repeat (first | refine aH_ ?_ _ | refine aK_ ?_ | refine aE_ ?_ _)); refine blk_put (cs := #[.int .i64 0, .int .i64 0, .slice none 0 0]) ?_ 1 _ rfl; (with_reducible repeat (first | refine aH_ ?_ _ | refine aK_ ?_ | refine aE_ ?_ _)); refine blk_put (cs := #[.int .i64 0, .int .i64 0, .slice none 0 0]) ?_ 0 _ rfl; (with_reducible repeat (first | refine aH_ ?_ _ | refine aK_ ?_ | refine aE_ ?_ _)); exact BK154.out) Tryz.underlying50 rfl (by kernel_rfl)) rfl ?_
  exact ⟨_, by first | rfl | (simp [aR_, aQ_] <;> rfl) | (simp [*, aR_, aQ_] <;> rfl), by first | exact Kd.R_nil _ _ _ _ _ | exact Kd.N_nil _ _ _ _ _ | exact Kd.V_nil _ _ _ _ _ | exact Kd.Q_nil _ _ _ _ _ | exact Kd.S_nil _ _ _ _ _, by repeat (first | (with_reducible first | exact HB.out | apply aA_ | apply aB_ | apply aD_ | refine aG_ ?_ GE153.out | refine aG_ ?_ GE154.out) | exact HB.out)⟩
 ·replace c5 := Bool.eq_false_iff.mpr c5
  subst c5
  have H1 : ((virgationref03_begins.f a1 a2 (⟨#[35]⟩ : ByteArray)).bind fun t159 => (if t159 = true then ((virgationref03_word.f k a1 (wrap64 (a2 + 1))).bind fun t160 => (if 0 ≤ (wrap64 (a2 + 1)) then (if (wrap64 (a2 + 1)) ≤ t160 then (if t160 ≤ (a1.size : Int) then ((virgationref03_index.f k l0_0 l0_1 t159 (a1.extract ((wrap64 (a2 + 1)) : Int).toNat (t160 : Int).toNat)).bind fun t161 => (some (2, t161, ([] : List (S50)), t160, decide (t161 ≥ 0)))) else (none)) else (none)) else (none))) else ((virgationref03_word.f k a1 a2).bind fun t162 => (if 0 ≤ a2 then (if a2 ≤ t162 then (if t162 ≤ (a1.size : Int) then ((virgationref03_index.f k l0_0 l0_1 t159 (a1.extract (a2 : Int).toNat (t162 : Int).toNat)).bind fun t163 => (some (1, t163, ([] : List (S50)), t162, decide (t163 ≥ 0)))) else (none)) else (none)) else (none))))) = some (r1, r2, r3, r4, r5) := by rw [if_neg (show ¬ (false = true) by decide)] at H; exact H
  clear H
  have H := H1
  clear H1
  replace H := Option.bind_eq_some_iff.mp H
  obtain ⟨t159, A110, H⟩ := H
  replace H : (if t159 = true then ((virgationref03_word.f k a1 (wrap64 (a2 + 1))).bind fun t160 => (if 0 ≤ (wrap64 (a2 + 1)) then (if (wrap64 (a2 + 1)) ≤ t160 then (if t160 ≤ (a1.size : Int) then ((virgationref03_index.f k l0_0 l0_1 t159 (a1.extract ((wrap64 (a2 + 1)) : Int).toNat (t160 : Int).toNat)).bind fun t161 => (some (2, t161, ([] : List (S50)), t160, decide (t161 ≥ 0)))) else (none)) else (none)) else (none))) else ((virgationref03_word.f k a1 a2).bind fun t162 => (if 0 ≤ a2 then (if a2 ≤ t162 then (if t162 ≤ (a1.size : Int) then ((virgationref03_index.f k l0_0 l0_1 t159 (a1.extract (a2 : Int).toNat (t162 : Int).toNat)).bind fun t163 => (some (1, t163, ([] : List (S50)), t162, decide (t163 ≥ 0)))) else (none)) else (none)) else (none)))) = some (r1, r2, r3, r4, r5) := H
  have A11 := mk0 A110
  clear A110
  by_cases c12 : t159 = true
  ·subst c12
   have H1 : ((virgationref03_word.f k a1 (wrap64 (a2 + 1))).bind fun t160 => (if 0 ≤ (wrap64 (a2 + 1)) then (if (wrap64 (a2 + 1)) ≤ t160 then (if t160 ≤ (a1.size : Int) then ((virgationref03_index.f k l0_0 l0_1 true (a1.extract ((wrap64 (a2 + 1)) : Int).toNat (t160 : Int).toNat)).bind fun t161 => (some (2, t161, ([] : List (S50)), t160, decide (t161 ≥ 0)))) else (none)) else (none)) else (none))) = some (r1, r2, r3, r4, r5) := by rw [if_pos rfl] at H; exact H
   clear H
   have H := H1
   clear H1
   replace H := Option.bind_eq_some_iff.mp H
   obtain ⟨t160, A130, H⟩ := H
   replace H : (if 0 ≤ (wrap64 (a2 + 1)) then (if (wrap64 (a2 + 1)) ≤ t160 then (if t160 ≤ (a1.size : Int) then ((virgationref03_index.f k l0_0 l0_1 true (a1.extract ((wrap64 (a2 + 1)) : Int).toNat (t160 : Int).toNat)).bind fun t161 => (some (2, t161, ([] : List (S50)), t160, decide (t161 ≥ 0)))) else (none)) else (none)) else (none)) = some (r1, r2, r3, r4, r5) := H
   have A13 := mk0 A130
   clear A130
   obtain ⟨ji14, hji14⟩ : ∃ j_ : Int, (wrap64 (a2 + 1)) = j_ := ⟨_, rfl⟩
   replace H : (if 0 ≤ (ji14) then (if (ji14) ≤ t160 then (if t160 ≤ (a1.size : Int) then ((virgationref03_index.f k l0_0 l0_1 true (a1.extract ((ji14) : Int).toNat (t160 : Int).toNat)).bind fun t161 => (some (2, t161, ([] : List (S50)), t160, decide (t161 ≥ 0)))) else (none)) else (none)) else (none)) = some (r1, r2, r3, r4, r5) := by first | (rw [hji14] at H; exact H) | (simp only [hji14] at H ⊢; exact H)
   (try rw [hji14] at A4)
   (try rw [hji14] at A11)
   (try rw [hji14] at A13)
   have hji14w : (IntKind.i64.wrap (a2 + 1)) = ji14 := (i64_w _).trans hji14
   by_cases c15 : 0 ≤ (ji14)
   ·rw [if_pos c15] at H
    have c15b0 := eq_true c15
    have c15b1 : decide (0 ≤ (ji14)) = true := l2_ c15
    clear c15
    by_cases c16 : (ji14) ≤ t160
    ·rw [if_pos c16] at H
     have c16b0 := eq_true c16
     have c16b1 : decide ((ji14) ≤ t160) = true := l2_ c16
     clear c16
     by_cases c17 : t160 ≤ (a1.size : Int)
     ·rw [if_pos c17] at H
      have c17b0 := eq_true c17
      have c17b1 : decide (t160 ≤ (a1.size : Int)) = true := l2_ c17
      clear c17
      replace H := Option.bind_eq_some_iff.mp H
      obtain ⟨t161, A180, H⟩ := H
      replace H : (some (2, t161, ([] : List (S50)), t160, decide (t161 ≥ 0))) = some (r1, r2, r3, r4, r5) := H
      have A18 := mk0 A180
      clear A180
      simp only [Option.some.injEq, Prod.mk.injEq] at H
      obtain ⟨rfl, rfl, rfl, rfl, rfl⟩ := H
      go_enter Tryz.func109, Tryz.ntmps109
      try go_wp2_with (first | ((with_reducible refine gate_dst (N := 3) rfl ?_); refine box_event ?hg (N := 3) ?hd (cs := #[.slice A0_0 l0_0.length c0_0, .slice A0_1 l0_1.length c0_1]) (t := 25) ?hr ?_; (case hd => rfl); (case hg => rfl); (case hr => first | (go_simp; done) | (go_simp; rfl)); intro gb153 hg w19 hbox hb; have n0_ := mk0 (aP_ (by repeat (first | (with_reducible first | exact HB.out | apply aA_ | apply aB_ | apply aD_) | exact HB.out)) hb); have n1_ := mk0 (hbox); have n2_ := mk0 ((by rw [hg]; exact (aM_ (by repeat (first | (with_reducible first | exact HB.out | apply aA_ | apply aB_ | apply aD_) | exact HB.out))) : w.heap.size ≤ gb153)); have n3_ := mk0 ((by rw [hg]; exact (aM_ (by repeat (first | (with_reducible first | exact HB.out | apply aA_ | apply aB_ | apply aD_) | exact HB.out))) : w.heap.size ≤ gb153)); clear HB; have HB := n0_; have BK153 := n1_; have GW153 := n2_; have GE153 := n3_; clear n0_ n1_ n2_ n3_; clear hb hbox hg) | ((with_reducible refine gate_dst (N := 6) rfl ?_); refine box_event ?hg (N := 6) ?hd (cs := #[.int .i64 0, .int .i64 0, .slice none 0 0]) (t := 50) ?hr ?_; (case hd => rfl); (case hg => rfl); (case hr => first | (go_simp; done) | (go_simp; rfl)); intro gb154 hg w20 hbox hb; have n0_ := mk0 (aJ_ (g := gb153) (o := .cells #[.slice A0_0 l0_0.length c0_0, .slice A0_1 l0_1.length c0_1] 25 (0, 0)) (by (with_reducible repeat (first | refine aH_ ?_ _ | refine aK_ ?_ | refine aE_ ?_ _)); exact BK153.out) hb); have n1_ := mk0 (aP_ (by repeat (first | (with_reducible first | exact HB.out | apply aA_ | apply aB_ | apply aD_ | refine aG_ ?_ GE153.out) | exact HB.out)) hb); have n2_ := mk0 (hbox); have n3_ := mk0 ((by rw [hg]; exact (aM_ (by repeat (first | (with_reducible first | exact HB.out | apply aA_ | apply aB_ | apply aD_ | refine aG_ ?_ GE153.out) | exact HB.out))) : w.heap.size ≤ gb154)); have n4_ := mk0 ((by rw [hg]; exact (aM_ (by repeat (first | (with_reducible first | exact HB.out | apply aA_ | apply aB_ | apply aD_ | refine aG_ ?_ GE153.out) | exact HB.out))) : w.heap.size ≤ gb154)); have n5_ := mk0 ((by rw [hg]; exact Nat.ne_of_lt (blk_lt (g := gb153) (o := .cells #[.slice A0_0 l0_0.length c0_0, .slice A0_1 l0_1.length c0_1] 25 (0, 0)) (by (with_reducible repeat (first | refine aH_ ?_ _ | refine aK_ ?_ | refine aE_ ?_ _)); exact BK153.out)) : gb153 ≠ gb154)); have n6_ := mk0 ((by rw [hg]; exact Nat.ne_of_gt (blk_lt (g := gb153) (o := .cells #[.slice A0_0 l0_0.length c0_0, .slice A0_1 l0_1.length c0_1] 25 (0, 0)) (by (with_reducible repeat (first | refine aH_ ?_ _ | refine aK_ ?_ | refine aE_ ?_ _)); exact BK153.out)) : gb154 ≠ gb153)); clear BK153; clear HB; have BK153 := n0_; have HB := n1_; have BK154 := n2_; have GW154 := n3_; have GE154 := n4_; have NB153_154 := n5_; have NB154_153 := n6_; clear n0_ n1_ n2_ n3_ n4_ n5_ n6_; clear hb hbox hg) | ((with_reducible refine gate_callee (f := 63) rfl ?_); refine goesL_ (some 18) rfl rfl Tryz.func63 (by kernel_rfl) rfl #[.string a1, .int .i64 a2, .string (⟨#[36]⟩ : ByteArray)] rfl (by (try simp only [List.map_toArray, List.map_cons, List.map_nil]); first | done | rfl | (simp only [l9_, List.length_take]; rfl)) ?_; (with_reducible refine (virgationref03_begins.calls a1 a2 (⟨#[36]⟩ : ByteArray) false _ A4.out).mono ?_); rintro e w' ⟨rfl, ⟨nd, rfl⟩⟩; refine ⟨_, rfl, ?_⟩; (try (rw [drewN_self w20]; generalize hq_ : World.drewN w20 _ = w20; have n0_ : Aside0 (w20.heap[gb153]? = some (.cells #[.slice A0_0 l0_0.length c0_0, .slice A0_1 l0_1.length c0_1] 25 (0, 0))) := ⟨by rw [← hq_]; exact (by (with_reducible repeat (first | refine aH_ ?_ _ | refine aK_ ?_ | refine aE_ ?_ _)); exact BK153.out)⟩; have n1_ : Aside0 (w20.heap[gb154]? = some (.cells #[.int .i64 0, .int .i64 0, .slice none 0 0] 50 (0, 0))) := ⟨by rw [← hq_]; exact (by (with_reducible repeat (first | refine aH_ ?_ _ | refine aK_ ?_ | refine aE_ ?_ _)); exact BK154.out)⟩; have n2_ : Aside0 (Below w.heap.size w w20) := ⟨by rw [← hq_]; exact (by repeat (first | (with_reducible first | exact HB.out | apply aA_ | apply aB_ | apply aD_ | refine aG_ ?_ GE153.out | refine aG_ ?_ GE154.out) | exact HB.out))⟩; clear BK153 BK154 HB hq_; have BK153 := n0_; have BK154 := n1_; have HB := n2_; clear n0_ n1_ n2_))) | ((with_reducible refine gate_callee (f := 63) rfl ?_); refine goesL_ (some 33) rfl rfl Tryz.func63 (by kernel_rfl) rfl #[.string a1, .int .i64 a2, .string (⟨#[35]⟩ : ByteArray)] rfl (by (try simp only [List.map_toArray, List.map_cons, List.map_nil]); first | done | rfl | (simp only [l9_, List.length_take]; rfl)) ?_; (with_reducible refine (virgationref03_begins.calls a1 a2 (⟨#[35]⟩ : ByteArray) true _ A11.out).mono ?_); rintro e w' ⟨rfl, ⟨nd, rfl⟩⟩; refine ⟨_, rfl, ?_⟩; (try (rw [drewN_self w20]; generalize hq_ : World.drewN w20 _ = w20; have n0_ : Aside0 (w20.heap[gb153]? = some (.cells #[.slice A0_0 l0_0.length c0_0, .slice A0_1 l0_1.length c0_1] 25 (0, 0))) := ⟨by rw [← hq_]; exact (by (with_reducible repeat (first | refine aH_ ?_ _ | refine aK_ ?_ | refine aE_ ?_ _)); exact BK153.out)⟩; have n1_ : Aside0 (w20.heap[gb154]? = some (.cells #[.int .i64 0, .int .i64 0, .slice none 0 0] 50 (0, 0))) := ⟨by rw [← hq_]; exact (by (with_reducible repeat (first | refine aH_ ?_ _ | refine aK_ ?_ | refine aE_ ?_ _)); exact BK154.out)⟩; have n2_ : Aside0 (Below w.heap.size w w20) := ⟨by rw [← hq_]; exact (by repeat (first | (with_reducible first | exact HB.out | apply aA_ | apply aB_ | apply aD_ | refine aG_ ?_ GE153.out | refine aG_ ?_ GE154.out) | exact HB.out))⟩; clear BK153 BK154 HB hq_; have BK153 := n0_; have BK154 := n1_; have HB := n2_; clear n0_ n1_ n2_))) | ((with_reducible refine gate_callee (f := 106) rfl ?_); refine goesL_ (some 39) rfl rfl Tryz.func106 (by kernel_rfl) rfl #[.string a1, .int .i64 ji14] rfl (by (try simp only [List.map_toArray, List.map_cons, List.map_nil]); first | done | (simp only [hji14]; rfl) | rfl | (simp only [l9_, List.length_take]; rfl)) ?_; (with_reducible refine (virgationref03_word.calls k a1 ji14 t160 _ A13.out).mono ?_); rintro e w' ⟨rfl, ⟨nd, rfl⟩⟩; refine ⟨_, rfl, ?_⟩; (try (rw [drewN_self w20]; generalize hq_ : World.drewN w20 _ = w20; have n0_ : Aside0 (w20.heap[gb153]? = some (.cells #[.slice A0_0 l0_0.length c0_0, .slice A0_1 l0_1.length c0_1] 25 (0, 0))) := ⟨by rw [← hq_]; exact (by (with_reducible repeat (first | refine aH_ ?_ _ | refine aK_ ?_ | refine aE_ ?_ _)); exact BK153.out)⟩; have n1_ : Aside0 (w20.heap[gb154]? = some (.cells #[.int .i64 0, .int .i64 0, .slice none 0 0] 50 (0, 0))) := ⟨by rw [← hq_]; exact (by (with_reducible repeat (first | refine aH_ ?_ _ | refine aK_ ?_ | refine aE_ ?_ _)); exact BK154.out)⟩; have n2_ : Aside0 (Below w.heap.size w w20) := ⟨by rw [← hq_]; exact (by repeat (first | (with_reducible first | exact HB.out | apply aA_ | apply aB_ | apply aD_ | refine aG_ ?_ GE153.out | refine aG_ ?_ GE154.out) | exact HB.out))⟩; clear BK153 BK154 HB hq_; have BK153 := n0_; have BK154 := n1_; have HB := n2_; clear n0_ n1_ n2_))))
      have n0_ := mk0 (aK_ BK153.out)
      have n1_ := mk0 (aK_ BK154.out)
      have n2_ := mk0 (aD_ HB.out)
      clear BK153
      clear BK154
      clear HB
      have BK153 := n0_
      have BK154 := n1_
      have HB := n2_
      clear n0_ n1_ n2_
      refine start_ (n := 8) (S := fun w' => w'.cell? ⟨gb153, 0, none⟩ = some (.slice A0_0 l0_0.length c0_0) ∧ w'.cell? ⟨gb153, 1, none⟩ = some (.slice A0_1 l0_1.length c0_1)) (ds := []) #[false, false, false, false, false, false, false, false] (by kernel_rfl) rfl rfl ⟨(aC_ BK153.out 0).trans rfl, (aC_ BK153.out 1).trans rfl⟩ (fun hHeld => ?_); refine with_tabW virgationref03_parseHead.tab10 virgationref03_parseHead.bits10 (fun HT_ HW_ => ?_)
      generalize w20.drew = w21 at BK153 BK154 HB hHeld ⊢
      refine pure_ (i := 1) (N := some 41) (v := ?_) (a' := ?_) #[false, true, false, false, false, false, false, false] rfl rfl (any_of HT_.out (by kernel_rfl)) (fun _ _ _ h => h) (Or.inl ⟨by rfl, ?_⟩) ?_ ?_
      rotate_left
      ·intro w'
       go_simp
       with_reducible rfl
      rotate_left
      ·simp only [Act.put, l4_, l5_, l6_, i64_w, i32_w]
       rfl
      refine pure_ (i := 2) (N := some 42) (v := ?_) (a' := ?_) #[false, true, true, false, false, false, false, false] rfl rfl (any_of HT_.out (by kernel_rfl)) (fun _ _ _ h => h) (Or.inl ⟨by rfl, ?_⟩) ?_ ?_
      rotate_left
      ·intro w'
       go_simp
       with_reducible rfl
      rotate_left
      ·simp only [Act.put, l4_, l5_, l6_, i64_w, i32_w]
       rfl
      refine pure_ (i := 3) (N := some 43) (v := ?_) (a' := ?_) #[false, true, true, true, false, false, false, false] rfl rfl (any_of HT_.out (by kernel_rfl)) (fun _ _ _ h => h) (Or.inl ⟨by rfl, ?_⟩) ?_ ?_
      rotate_left
      ·intro w'
       go_simp
       with_reducible rfl
      rotate_left
      ·simp only [Act.put, l4_, l5_, l6_, i64_w, i32_w]
       rfl
      refine pure_ (i := 4) (N := some 44) (v := ?_) (a' := ?_) #[false, true, true, true, true, false, false, false] rfl rfl (any_of HT_.out (by kernel_rfl)) (fun _ _ _ h => h) (Or.inl ⟨by rfl, ?_⟩) ?_ ?_
      rotate_left
      ·intro w'
       go_simp
       with_reducible rfl
      rotate_left
      ·simp only [Act.put, l4_, l5_, l6_, i64_w, i32_w]
       rfl
      refine pure_ (i := 5) (N := some 45) (v := ?_) (a' := ?_) #[false, true, true, true, true, true, false, false] rfl rfl (any_of HT_.out (by kernel_rfl)) (fun _ _ _ h => h) (Or.inl ⟨by rfl, ?_⟩) ?_ ?_
      rotate_left
      ·intro w'
       go_simp
       with_reducible rfl
      rotate_left
      ·simp only [Act.put, l4_, l5_, l6_, i64_w, i32_w]
       rfl
      refine take_ (i := 0) (N := some 40) (v := ?_) (a' := ?_) #[true, true, true, true, true, true, false, false] rfl rfl (take_ofW HT_.out HW_.out (by kernel_rfl)) (fun _ _ _ h => h) (Or.inl ⟨by rfl, ?_⟩) hHeld ?_ ?_
      rotate_left
      ·rintro w' ⟨s0, s1⟩
       go_simp
       with_reducible rfl
      rotate_left
      ·simp only [Act.put, l4_, l5_, l6_, i64_w, i32_w]
       rfl
      refine one_ (i := 6) (N := some 46) #[true, true, true, true, true, true, true, false] rfl rfl (one_of HT_.out (by kernel_rfl)) (by decide) (fun K hK => ?_)
      refine goes_ Tryz.func133 (by kernel_rfl) rfl #[.agg #[.slice A0_0 l0_0.length c0_0, .slice A0_1 l0_1.length c0_1], .bool true, .string (a1.extract ((ji14) : Int).toNat (t160 : Int).toNat)] (by rfl) rfl rfl (by (try simp only [List.map_toArray, List.map_cons, List.map_nil]); first | done | (simp only [hji14]; rfl) | rfl | (simp only [l9_, List.length_take]; rfl)) ?_
      with_reducible refine (virgationref03_index.calls k _ _ l0_0 _ _ l0_1 true (a1.extract ((ji14) : Int).toNat (t160 : Int).toNat) t161 _ ?side1 ?side2 ?side3 ?side4 A18.out).mono ?_
      (case side1 => repeat (first | exact (Kd.C_below HR0_0.out HB.out) | (with_reducible refine Kd.C_alloc ?_ _) | (with_reducible refine Kd.C_drewN ?_ _) | (with_reducible refine Kd.C_drew ?_)))
      (case side2 => exact HC0_0.out)
      (case side3 => repeat (first | exact (Kd.C_below HR0_1.out HB.out) | (with_reducible refine Kd.C_alloc ?_ _) | (with_reducible refine Kd.C_drewN ?_ _) | (with_reducible refine Kd.C_drew ?_)))
      (case side4 => exact HC0_1.out)
      rintro e w22 ⟨rfl, hb⟩
      refine ⟨_, rfl, ?_⟩
      have n0_ := mk0 (aJ_ (g := gb153) (o := .cells #[.slice A0_0 l0_0.length c0_0, .slice A0_1 l0_1.length c0_1] 25 (0, 0)) (by (with_reducible repeat (first | refine aH_ ?_ _ | refine aK_ ?_ | refine aE_ ?_ _)); exact BK153.out) hb)
      have n1_ := mk0 (aJ_ (g := gb154) (o := .cells #[.int .i64 0, .int .i64 0, .slice none 0 0] 50 (0, 0)) (by (with_reducible repeat (first | refine aH_ ?_ _ | refine aK_ ?_ | refine aE_ ?_ _)); exact BK154.out) hb)
      have n2_ := mk0 (aP_ (by repeat (first | (with_reducible first | exact HB.out | apply aA_ | apply aB_ | apply aD_ | refine aG_ ?_ GE153.out | refine aG_ ?_ GE154.out) | exact HB.out)) hb)
      clear BK153
      clear BK154
      clear HB
      have BK153 := n0_
      have BK154 := n1_
      have HB := n2_
      clear n0_ n1_ n2_
      (try clear hb)
      (try clear hb2)
      (try clear hk)
      (try clear hi)
      refine hK.out _ _ ⟨(aC_ BK153.out 0).trans rfl, (aC_ BK153.out 1).trans rfl⟩ (fun hHeld => ?_)
      clear hK K
      refine norm_ (a' := ?_) ?_ ?_
      rotate_left
      ·show Act.put _ (some 46) _ = _
       simp only [Act.put, l4_, l5_, l6_, i64_w, i32_w]
       rfl
      refine pure_ (i := 7) (N := some 15) (v := ?_) (a' := ?_) #[true, true, true, true, true, true, true, true] rfl rfl (any_of HT_.out (by kernel_rfl)) (fun _ _ _ h => h) (Or.inl ⟨by rfl, ?_⟩) ?_ ?_
      rotate_left
      ·intro w'
       go_simp
       with_reducible rfl
      rotate_left
      ·simp only [Act.put, l4_, l5_, l6_, i64_w, i32_w]
       rfl
      refine done_ (done_of HT_.out (by kernel_rfl)) ?_
      have hnb23 := NB154_153.out
      have hnc23 := NB153_154.out
      have hcz24_0 : w22.cell? ⟨gb154, 0, none⟩ = some (.int .i64 0) := (aC_ BK154.out 0).trans rfl
      have hcz24_1 : w22.cell? ⟨gb154, 1, none⟩ = some (.int .i64 0) := (aC_ BK154.out 1).trans rfl
      have hcz24_2 : w22.cell? ⟨gb154, 2, none⟩ = some (.slice none 0 0) := (aC_ BK154.out 2).trans rfl
      have hfz24_0 := aF_ BK154.out 0
      have hfz24_1 := aF_ BK154.out 1
      have hfz24_2 := aF_ BK154.out 2
      try go_wp2
      refine bodyPost_ret (results_ctt rfl _ _ gb154 50 #[.int .i64 2, .int .i64 t161, .slice none 0 0] (0, 0) _ rfl (by (with_reducible repeat (first | refine aH_ ?_ _ | refine aK_ ?_ | refine aE_ ?_ _)); refine blk_put (cs := #[.int .i64 2, .int .i64 t161, .slice none 0 0]) ?_ 2 _ rfl; (with_reducible repeat (first | refine aH_ ?_ _ | refine aK_ ?_ | refine aE_ ?_ _)); refine blk_put (cs := #[.int .i64 2, .int .i64 0, .slice none 0 0]) ?_ 1 _ rfl; (with_reducible repeat (first | refine aH_ ?_ _ | refine aK_ ?_ | refine aE_ ?_ _)); refine blk_put (cs := #[.int .i64 0, .int .i64 0, .slice none 0 0]) ?_ 0 _ rfl; (with_reducible repeat (first | refine aH_ ?_ _ | refine aK_ ?_ | refine aE_ ?_ _)); exact BK154.out) Tryz.underlying50 rfl (by kernel_rfl)) rfl ?_
      exact ⟨_, by first | rfl | (simp [aR_, aQ_] <;> rfl) | (simp only [← hji14]; first | rfl | (simp [aR_, aQ_] <;> rfl)) | (simp [*, aR_, aQ_] <;> rfl), by first | exact Kd.R_nil _ _ _ _ _ | exact Kd.N_nil _ _ _ _ _ | exact Kd.V_nil _ _ _ _ _ | exact Kd.Q_nil _ _ _ _ _ | exact Kd.S_nil _ _ _ _ _, by repeat (first | (with_reducible first | exact HB.out | apply aA_ | apply aB_ | apply aD_ | refine aG_ ?_ GE153.out | refine aG_ ?_ GE154.out) | exact HB.out)⟩
     ·rw [if_neg c17] at H
      exact absurd H (by simp)
    ·rw [if_neg c16] at H
     exact absurd H (by simp)
   ·rw [if_neg c15] at H
    exact absurd H (by simp)
  ·replace c12 := Bool.eq_false_iff.mpr c12
   subst c12
   have H1 : ((virgationref03_word.f k a1 a2).bind fun t162 => (if 0 ≤ a2 then (if a2 ≤ t162 then (if t162 ≤ (a1.size : Int) then ((virgationref03_index.f k l0_0 l0_1 false (a1.extract (a2 : Int).toNat (t162 : Int).toNat)).bind fun t163 => (some (1, t163, ([] : List (S50)), t162, decide (t163 ≥ 0)))) else (none)) else (none)) else (none))) = some (r1, r2, r3, r4, r5) := by rw [if_neg (show ¬ (false = true) by decide)] at H; exact H
   clear H
   have H := H1
   clear H1
   replace H := Option.bind_eq_some_iff.mp H
   obtain ⟨t162, A250, H⟩ := H
   replace H : (if 0 ≤ a2 then (if a2 ≤ t162 then (if t162 ≤ (a1.size : Int) then ((virgationref03_index.f k l0_0 l0_1 false (a1.extract (a2 : Int).toNat (t162 : Int).toNat)).bind fun t163 => (some (1, t163, ([] : List (S50)), t162, decide (t163 ≥ 0)))) else (none)) else (none)) else (none)) = some (r1, r2, r3, r4, r5) := H
   have A25 := mk0 A250
   clear A250
   by_cases c26 : 0 ≤ a2
   ·rw [if_pos c26] at H
    have c26b0 := eq_true c26
    have c26b1 : decide (0 ≤ a2) = true := l2_ c26
    clear c26
    by_cases c27 : a2 ≤ t162
    ·rw [if_pos c27] at H
     have c27b0 := eq_true c27
     have c27b1 : decide (a2 ≤ t162) = true := l2_ c27
     clear c27
     by_cases c28 : t162 ≤ (a1.size : Int)
     ·rw [if_pos c28] at H
      have c28b0 := eq_true c28
      have c28b1 : decide (t162 ≤ (a1.size : Int)) = true := l2_ c28
      clear c28
      replace H := Option.bind_eq_some_iff.mp H
      obtain ⟨t163, A290, H⟩ := H
      replace H : (some (1, t163, ([] : List (S50)), t162, decide (t163 ≥ 0))) = some (r1, r2, r3, r4, r5) := H
      have A29 := mk0 A290
      clear A290
      simp only [Option.some.injEq, Prod.mk.injEq] at H
      obtain ⟨rfl, rfl, rfl, rfl, rfl⟩ := H
      go_enter Tryz.func109, Tryz.ntmps109
      try go_wp2_with (first | ((with_reducible refine gate_dst (N := 3) rfl ?_); refine box_event ?hg (N := 3) ?hd (cs := #[.slice A0_0 l0_0.length c0_0, .slice A0_1 l0_1.length c0_1]) (t := 25) ?hr ?_; (case hd => rfl); (case hg => rfl); (case hr => first | (go_simp; done) | (go_simp; rfl)); intro gb153 hg w30 hbox hb; have n0_ := mk0 (aP_ (by repeat (first | (with_reducible first | exact HB.out | apply aA_ | apply aB_ | apply aD_) | exact HB.out)) hb); have n1_ := mk0 (hbox); have n2_ := mk0 ((by rw [hg]; exact (aM_ (by repeat (first | (with_reducible first | exact HB.out | apply aA_ | apply aB_ | apply aD_) | exact HB.out))) : w.heap.size ≤ gb153)); have n3_ := mk0 ((by rw [hg]; exact (aM_ (by repeat (first | (with_reducible first | exact HB.out | apply aA_ | apply aB_ | apply aD_) | exact HB.out))) : w.heap.size ≤ gb153)); clear HB; have HB := n0_; have BK153 := n1_; have GW153 := n2_; have GE153 := n3_; clear n0_ n1_ n2_ n3_; clear hb hbox hg) | ((with_reducible refine gate_dst (N := 6) rfl ?_); refine box_event ?hg (N := 6) ?hd (cs := #[.int .i64 0, .int .i64 0, .slice none 0 0]) (t := 50) ?hr ?_; (case hd => rfl); (case hg => rfl); (case hr => first | (go_simp; done) | (go_simp; rfl)); intro gb154 hg w31 hbox hb; have n0_ := mk0 (aJ_ (g := gb153) (o := .cells #[.slice A0_0 l0_0.length c0_0, .slice A0_1 l0_1.length c0_1] 25 (0, 0)) (by (with_reducible repeat (first | refine aH_ ?_ _ | refine aK_ ?_ | refine aE_ ?_ _)); exact BK153.out) hb); have n1_ := mk0 (aP_ (by repeat (first | (with_reducible first | exact HB.out | apply aA_ | apply aB_ | apply aD_ | refine aG_ ?_ GE153.out) | exact HB.out)) hb); have n2_ := mk0 (hbox); have n3_ := mk0 ((by rw [hg]; exact (aM_ (by repeat (first | (with_reducible first | exact HB.out | apply aA_ | apply aB_ | apply aD_ | refine aG_ ?_ GE153.out) | exact HB.out))) : w.heap.size ≤ gb154)); have n4_ := mk0 ((by rw [hg]; exact (aM_ (by repeat (first | (with_reducible first | exact HB.out | apply aA_ | apply aB_ | apply aD_ | refine aG_ ?_ GE153.out) | exact HB.out))) : w.heap.size ≤ gb154)); have n5_ := mk0 ((by rw [hg]; exact Nat.ne_of_lt (blk_lt (g := gb153) (o := .cells #[.slice A0_0 l0_0.length c0_0, .slice A0_1 l0_1.length c0_1] 25 (0, 0)) (by (with_reducible repeat (first | refine aH_ ?_ _ | refine aK_ ?_ | refine aE_ ?_ _)); exact BK153.out)) : gb153 ≠ gb154)); have n6_ := mk0 ((by rw [hg]; exact Nat.ne_of_gt (blk_lt (g := gb153) (o := .cells #[.slice A0_0 l0_0.length c0_0, .slice A0_1 l0_1.length c0_1] 25 (0, 0)) (by (with_reducible repeat (first | refine aH_ ?_ _ | refine aK_ ?_ | refine aE_ ?_ _)); exact BK153.out)) : gb154 ≠ gb153)); clear BK153; clear HB; have BK153 := n0_; have HB := n1_; have BK154 := n2_; have GW154 := n3_; have GE154 := n4_; have NB153_154 := n5_; have NB154_153 := n6_; clear n0_ n1_ n2_ n3_ n4_ n5_ n6_; clear hb hbox hg) | ((with_reducible refine gate_callee (f := 63) rfl ?_); refine goesL_ (some 18) rfl rfl Tryz.func63 (by kernel_rfl) rfl #[.string a1, .int .i64 a2, .string (⟨#[36]⟩ : ByteArray)] rfl (by (try simp only [List.map_toArray, List.map_cons, List.map_nil]); first | done | rfl | (simp only [l9_, List.length_take]; rfl)) ?_; (with_reducible refine (virgationref03_begins.calls a1 a2 (⟨#[36]⟩ : ByteArray) false _ A4.out).mono ?_); rintro e w' ⟨rfl, ⟨nd, rfl⟩⟩; refine ⟨_, rfl, ?_⟩; (try (rw [drewN_self w31]; generalize hq_ : World.drewN w31 _ = w31; have n0_ : Aside0 (w31.heap[gb153]? = some (.cells #[.slice A0_0 l0_0.length c0_0, .slice A0_1 l0_1.length c0_1] 25 (0, 0))) := ⟨by rw [← hq_]; exact (by (with_reducible repeat (first | refine aH_ ?_ _ | refine aK_ ?_ | refine aE_ ?_ _)); exact BK153.out)⟩; have n1_ : Aside0 (w31.heap[gb154]? = some (.cells #[.int .i64 0, .int .i64 0, .slice none 0 0] 50 (0, 0))) := ⟨by rw [← hq_]; exact (by (with_reducible repeat (first | refine aH_ ?_ _ | refine aK_ ?_ | refine aE_ ?_ _)); exact BK154.out)⟩; have n2_ : Aside0 (Below w.heap.size w w31) := ⟨by rw [← hq_]; exact (by repeat (first | (with_reducible first | exact HB.out | apply aA_ | apply aB_ | apply aD_ | refine aG_ ?_ GE153.out | refine aG_ ?_ GE154.out) | exact HB.out))⟩; clear BK153 BK154 HB hq_; have BK153 := n0_; have BK154 := n1_; have HB := n2_; clear n0_ n1_ n2_))) | ((with_reducible refine gate_callee (f := 63) rfl ?_); refine goesL_ (some 33) rfl rfl Tryz.func63 (by kernel_rfl) rfl #[.string a1, .int .i64 a2, .string (⟨#[35]⟩ : ByteArray)] rfl (by (try simp only [List.map_toArray, List.map_cons, List.map_nil]); first | done | rfl | (simp only [l9_, List.length_take]; rfl)) ?_; (with_reducible refine (virgationref03_begins.calls a1 a2 (⟨#[35]⟩ : ByteArray) false _ A11.out).mono ?_); rintro e w' ⟨rfl, ⟨nd, rfl⟩⟩; refine ⟨_, rfl, ?_⟩; (try (rw [drewN_self w31]; generalize hq_ : World.drewN w31 _ = w31; have n0_ : Aside0 (w31.heap[gb153]? = some (.cells #[.slice A0_0 l0_0.length c0_0, .slice A0_1 l0_1.length c0_1] 25 (0, 0))) := ⟨by rw [← hq_]; exact (by (with_reducible repeat (first | refine aH_ ?_ _ | refine aK_ ?_ | refine aE_ ?_ _)); exact BK153.out)⟩; have n1_ : Aside0 (w31.heap[gb154]? = some (.cells #[.int .i64 0, .int .i64 0, .slice none 0 0] 50 (0, 0))) := ⟨by rw [← hq_]; exact (by (with_reducible repeat (first | refine aH_ ?_ _ | refine aK_ ?_ | refine aE_ ?_ _)); exact BK154.out)⟩; have n2_ : Aside0 (Below w.heap.size w w31) := ⟨by rw [← hq_]; exact (by repeat (first | (with_reducible first | exact HB.out | apply aA_ | apply aB_ | apply aD_ | refine aG_ ?_ GE153.out | refine aG_ ?_ GE154.out) | exact HB.out))⟩; clear BK153 BK154 HB hq_; have BK153 := n0_; have BK154 := n1_; have HB := n2_; clear n0_ n1_ n2_))) | ((with_reducible refine gate_callee (f := 106) rfl ?_); refine goesL_ (some 39) rfl rfl Tryz.func106 (by kernel_rfl) rfl #[.string a1, .int .i64 a2] rfl (by (try simp only [List.map_toArray, List.map_cons, List.map_nil]); first | done | rfl | (simp only [l9_, List.length_take]; rfl)) ?_; (with_reducible refine (virgationref03_word.calls k a1 a2 t162 _ A25.out).mono ?_); rintro e w' ⟨rfl, ⟨nd, rfl⟩⟩; refine ⟨_, rfl, ?_⟩; (try (rw [drewN_self w31]; generalize hq_ : World.drewN w31 _ = w31; have n0_ : Aside0 (w31.heap[gb153]? = some (.cells #[.slice A0_0 l0_0.length c0_0, .slice A0_1 l0_1.length c0_1] 25 (0, 0))) := ⟨by rw [← hq_]; exact (by (with_reducible repeat (first | refine aH_ ?_ _ | refine aK_ ?_ | refine aE_ ?_ _)); exact BK153.out)⟩; have n1_ : Aside0 (w31.heap[gb154]? = some (.cells #[.int .i64 0, .int .i64 0, .slice none 0 0] 50 (0, 0))) := ⟨by rw [← hq_]; exact (by (with_reducible repeat (first | refine aH_ ?_ _ | refine aK_ ?_ | refine aE_ ?_ _)); exact BK154.out)⟩; have n2_ : Aside0 (Below w.heap.size w w31) := ⟨by rw [← hq_]; exact (by repeat (first | (with_reducible first | exact HB.out | apply aA_ | apply aB_ | apply aD_ | refine aG_ ?_ GE153.out | refine aG_ ?_ GE154.out) | exact HB.out))⟩; clear BK153 BK154 HB hq_; have BK153 := n0_; have BK154 := n1_; have HB := n2_; clear n0_ n1_ n2_))))
      have n0_ := mk0 (aK_ BK153.out)
      have n1_ := mk0 (aK_ BK154.out)
      have n2_ := mk0 (aD_ HB.out)
      clear BK153
      clear BK154
      clear HB
      have BK153 := n0_
      have BK154 := n1_
      have HB := n2_
      clear n0_ n1_ n2_
      refine start_ (n := 8) (S := fun w' => w'.cell? ⟨gb153, 0, none⟩ = some (.slice A0_0 l0_0.length c0_0) ∧ w'.cell? ⟨gb153, 1, none⟩ = some (.slice A0_1 l0_1.length c0_1)) (ds := []) #[false, false, false, false, false, false, false, false] (by kernel_rfl) rfl rfl ⟨(aC_ BK153.out 0).trans rfl, (aC_ BK153.out 1).trans rfl⟩ (fun hHeld => ?_); refine with_tabW virgationref03_parseHead.tab10 virgationref03_parseHead.bits10 (fun HT_ HW_ => ?_)
      generalize w31.drew = w32 at BK153 BK154 HB hHeld ⊢
      refine pure_ (i := 1) (N := some 41) (v := ?_) (a' := ?_) #[false, true, false, false, false, false, false, false] rfl rfl (any_of HT_.out (by kernel_rfl)) (fun _ _ _ h => h) (Or.inl ⟨by rfl, ?_⟩) ?_ ?_
      rotate_left
      ·intro w'
       go_simp
       with_reducible rfl
      rotate_left
      ·simp only [Act.put, l4_, l5_, l6_, i64_w, i32_w]
       rfl
      refine pure_ (i := 2) (N := some 42) (v := ?_) (a' := ?_) #[false, true, true, false, false, false, false, false] rfl rfl (any_of HT_.out (by kernel_rfl)) (fun _ _ _ h => h) (Or.inl ⟨by rfl, ?_⟩) ?_ ?_
      rotate_left
      ·intro w'
       go_simp
       with_reducible rfl
      rotate_left
      ·simp only [Act.put, l4_, l5_, l6_, i64_w, i32_w]
       rfl
      refine pure_ (i := 3) (N := some 43) (v := ?_) (a' := ?_) #[false, true, true, true, false, false, false, false] rfl rfl (any_of HT_.out (by kernel_rfl)) (fun _ _ _ h => h) (Or.inl ⟨by rfl, ?_⟩) ?_ ?_
      rotate_left
      ·intro w'
       go_simp
       with_reducible rfl
      rotate_left
      ·simp only [Act.put, l4_, l5_, l6_, i64_w, i32_w]
       rfl
      refine pure_ (i := 4) (N := some 44) (v := ?_) (a' := ?_) #[false, true, true, true, true, false, false, false] rfl rfl (any_of HT_.out (by kernel_rfl)) (fun _ _ _ h => h) (Or.inl ⟨by rfl, ?_⟩) ?_ ?_
      rotate_left
      ·intro w'
       go_simp
       with_reducible rfl
      rotate_left
      ·simp only [Act.put, l4_, l5_, l6_, i64_w, i32_w]
       rfl
      refine pure_ (i := 5) (N := some 45) (v := ?_) (a' := ?_) #[false, true, true, true, true, true, false, false] rfl rfl (any_of HT_.out (by kernel_rfl)) (fun _ _ _ h => h) (Or.inl ⟨by rfl, ?_⟩) ?_ ?_
      rotate_left
      ·intro w'
       go_simp
       with_reducible rfl
      rotate_left
      ·simp only [Act.put, l4_, l5_, l6_, i64_w, i32_w]
       rfl
      refine take_ (i := 0) (N := some 40) (v := ?_) (a' := ?_) #[true, true, true, true, true, true, false, false] rfl rfl (take_ofW HT_.out HW_.out (by kernel_rfl)) (fun _ _ _ h => h) (Or.inl ⟨by rfl, ?_⟩) hHeld ?_ ?_
      rotate_left
      ·rintro w' ⟨s0, s1⟩
       go_simp
       with_reducible rfl
      rotate_left
      ·simp only [Act.put, l4_, l5_, l6_, i64_w, i32_w]
       rfl
      refine one_ (i := 6) (N := some 46) #[true, true, true, true, true, true, true, false] rfl rfl (one_of HT_.out (by kernel_rfl)) (by decide) (fun K hK => ?_)
      refine goes_ Tryz.func133 (by kernel_rfl) rfl #[.agg #[.slice A0_0 l0_0.length c0_0, .slice A0_1 l0_1.length c0_1], .bool false, .string (a1.extract (a2 : Int).toNat (t162 : Int).toNat)] (by rfl) rfl rfl (by (try simp only [List.map_toArray, List.map_cons, List.map_nil]); first | done | rfl | (simp only [l9_, List.length_take]; rfl)) ?_
      with_reducible refine (virgationref03_index.calls k _ _ l0_0 _ _ l0_1 false (a1.extract (a2 : Int).toNat (t162 : Int).toNat) t163 _ ?side1 ?side2 ?side3 ?side4 A29.out).mono ?_
      (case side1 => repeat (first | exact (Kd.C_below HR0_0.out HB.out) | (with_reducible refine Kd.C_alloc ?_ _) | (with_reducible refine Kd.C_drewN ?_ _) | (with_reducible refine Kd.C_drew ?_)))
      (case side2 => exact HC0_0.out)
      (case side3 => repeat (first | exact (Kd.C_below HR0_1.out HB.out) | (with_reducible refine Kd.C_alloc ?_ _) | (with_reducible refine Kd.C_drewN ?_ _) | (with_reducible refine Kd.C_drew ?_)))
      (case side4 => exact HC0_1.out)
      rintro e w33 ⟨rfl, hb⟩
      refine ⟨_, rfl, ?_⟩
      have n0_ := mk0 (aJ_ (g := gb153) (o := .cells #[.slice A0_0 l0_0.length c0_0, .slice A0_1 l0_1.length c0_1] 25 (0, 0)) (by (with_reducible repeat (first | refine aH_ ?_ _ | refine aK_ ?_ | refine aE_ ?_ _)); exact BK153.out) hb)
      have n1_ := mk0 (aJ_ (g := gb154) (o := .cells #[.int .i64 0, .int .i64 0, .slice none 0 0] 50 (0, 0)) (by (with_reducible repeat (first | refine aH_ ?_ _ | refine aK_ ?_ | refine aE_ ?_ _)); exact BK154.out) hb)
      have n2_ := mk0 (aP_ (by repeat (first | (with_reducible first | exact HB.out | apply aA_ | apply aB_ | apply aD_ | refine aG_ ?_ GE153.out | refine aG_ ?_ GE154.out) | exact HB.out)) hb)
      clear BK153
      clear BK154
      clear HB
      have BK153 := n0_
      have BK154 := n1_
      have HB := n2_
      clear n0_ n1_ n2_
      (try clear hb)
      (try clear hb2)
      (try clear hk)
      (try clear hi)
      refine hK.out _ _ ⟨(aC_ BK153.out 0).trans rfl, (aC_ BK153.out 1).trans rfl⟩ (fun hHeld => ?_)
      clear hK K
      refine norm_ (a' := ?_) ?_ ?_
      rotate_left
      ·show Act.put _ (some 46) _ = _
       simp only [Act.put, l4_, l5_, l6_, i64_w, i32_w]
       rfl
      refine pure_ (i := 7) (N := some 15) (v := ?_) (a' := ?_) #[true, true, true, true, true, true, true, true] rfl rfl (any_of HT_.out (by kernel_rfl)) (fun _ _ _ h => h) (Or.inl ⟨by rfl, ?_⟩) ?_ ?_
      rotate_left
      ·intro w'
       go_simp
       with_reducible rfl
      rotate_left
      ·simp only [Act.put, l4_, l5_, l6_, i64_w, i32_w]
       rfl
      refine done_ (done_of HT_.out (by kernel_rfl)) ?_
      have hnb34 := NB154_153.out
      have hnc34 := NB153_154.out
      have hcz35_0 : w33.cell? ⟨gb154, 0, none⟩ = some (.int .i64 0) := (aC_ BK154.out 0).trans rfl
      have hcz35_1 : w33.cell? ⟨gb154, 1, none⟩ = some (.int .i64 0) := (aC_ BK154.out 1).trans rfl
      have hcz35_2 : w33.cell? ⟨gb154, 2, none⟩ = some (.slice none 0 0) := (aC_ BK154.out 2).trans rfl
      have hfz35_0 := aF_ BK154.out 0
      have hfz35_1 := aF_ BK154.out 1
      have hfz35_2 := aF_ BK154.out 2
      try go_wp2
      refine bodyPost_ret (results_ctt rfl _ _ gb154 50 #[.int .i64 1, .int .i64 t163, .slice none 0 0] (0, 0) _ rfl (by (with_reducible repeat (first | refine aH_ ?_ _ | refine aK_ ?_ | refine aE_ ?_ _)); refine blk_put (cs := #[.int .i64 1, .int .i64 t163, .slice none 0 0]) ?_ 2 _ rfl; (with_reducible repeat (first | refine aH_ ?_ _ | refine aK_ ?_ | refine aE_ ?_ _)); refine blk_put (cs := #[.int .i64 1, .int .i64 0, .slice none 0 0]) ?_ 1 _ rfl; (with_reducible repeat (first | refine aH_ ?_ _ | refine aK_ ?_ | refine aE_ ?_ _)); refine blk_put (cs := #[.int .i64 0, .int .i64 0, .slice none 0 0]) ?_ 0 _ rfl; (with_reducible repeat (first | refine aH_ ?_ _ | refine aK_ ?_ | refine aE_ ?_ _)); exact BK154.out) Tryz.underlying50 rfl (by kernel_rfl)) rfl ?_
      exact ⟨_, by first | rfl | (simp [aR_, aQ_] <;> rfl) | (simp [*, aR_, aQ_] <;> rfl), by first | exact Kd.R_nil _ _ _ _ _ | exact Kd.N_nil _ _ _ _ _ | exact Kd.V_nil _ _ _ _ _ | exact Kd.Q_nil _ _ _ _ _ | exact Kd.S_nil _ _ _ _ _, by repeat (first | (with_reducible first | exact HB.out | apply aA_ | apply aB_ | apply aD_ | refine aG_ ?_ GE153.out | refine aG_ ?_ GE154.out) | exact HB.out)⟩
     ·rw [if_neg c28] at H
      exact absurd H (by simp)
    ·rw [if_neg c27] at H
     exact absurd H (by simp)
   ·rw [if_neg c26] at H
    exact absurd H (by simp)
mutual
def virgationref02_Name.j0 : Nat → ByteArray → Bool → Option (Bool)
 | 0, _, _ => none
 | k + 1, x0, x21 => if x21 = true then (some false) else (virgationref02_Name.l0 k x0 0)
def virgationref02_Name.l0 : Nat → ByteArray → Int → Option (Bool)
 | 0, _, _ => none
 | k + 1, x0, x3 => if x3 < (x0.size : Int) then (if 0 ≤ x3 then (if (bt x0 x3) < 97 then (if (bt x0 x3) < 48 then (if (bt x0 x3) = 95 then (virgationref02_Name.l0 k x0 (wrap64 (x3 + 1))) else (some false)) else (if (bt x0 x3) > 57 then (if (bt x0 x3) = 95 then (virgationref02_Name.l0 k x0 (wrap64 (x3 + 1))) else (some false)) else (virgationref02_Name.l0 k x0 (wrap64 (x3 + 1))))) else (if (bt x0 x3) > 122 then (if (bt x0 x3) < 48 then (if (bt x0 x3) = 95 then (virgationref02_Name.l0 k x0 (wrap64 (x3 + 1))) else (some false)) else (if (bt x0 x3) > 57 then (if (bt x0 x3) = 95 then (virgationref02_Name.l0 k x0 (wrap64 (x3 + 1))) else (some false)) else (virgationref02_Name.l0 k x0 (wrap64 (x3 + 1))))) else (virgationref02_Name.l0 k x0 (wrap64 (x3 + 1))))) else (none)) else (some true)
end
def virgationref02_Name.f (k : Nat) (a0 : ByteArray) : Option (Bool) := if (a0.size : Int) < 1 then (virgationref02_Name.j0 k a0 true) else (if (a0.size : Int) > 24 then (virgationref02_Name.j0 k a0 true) else (if 0 < (a0.size : Int) then (if (bt a0 0) < 97 then (virgationref02_Name.j0 k a0 true) else (virgationref02_Name.j0 k a0 (decide ((bt a0 0) > 122)))) else (none)))
set_option maxHeartbeats 8000000 in
set_option maxRecDepth 100000 in
theorem virgationref02_Name.calls (k : Nat) (a0 : ByteArray) (r : Bool) (w : World) (h : virgationref02_Name.f k a0 = some r) :
  Calls Tryz.prog 64 #[.string a0] w fun e w' => e = .returned (.bool r) ∧ Drawn0 w w' := by
 have H : (if (a0.size : Int) < 1 then (virgationref02_Name.j0 k a0 true) else (if (a0.size : Int) > 24 then (virgationref02_Name.j0 k a0 true) else (if 0 < (a0.size : Int) then (if (bt a0 0) < 97 then (virgationref02_Name.j0 k a0 true) else (virgationref02_Name.j0 k a0 (decide ((bt a0 0) > 122)))) else (none)))) = some r := h
 clear h
 have HC2 := mk0 H
 clear H
 go_enter Tryz.func64, Tryz.ntmps64
 go_upto_region 1 with (fail)
 go_cut [21] (fun v21 wc => ∃ (kq : Nat) (x21_1 : Bool), v21 = .bool x21_1 ∧ Aside0 (virgationref02_Name.j0 kq a0 x21_1 = some r) ∧ Aside0 (kq ≤ k) ∧ Drawn0 w wc)
 case first =>
  have H := HC2.out
  clear HC2
  by_cases c3 : (a0.size : Int) < 1
  ·rw [if_pos c3] at H
   have c3b0 : decide ((a0.size : Int) < 1) = true := l2_ c3
   have c3b1 : decide (a0.size < 1) = true := l2_ (by omega)
   clear c3
   (first | rw [c3b0] | (simp only [i64_w, i32_w]; rw [c3b0]) | skip)
   have H' := mk0 H
   clear H
   go_wp2
   go_meet
   case rel => exact ⟨_, (true), (by first | rfl | (simp; done) | (simp [*]; done)), H', ⟨by first | omega | exact Nat.le_refl _⟩, by repeat (first | exact Drawn0.refl _ | apply Drawn0.step)⟩
  ·rw [if_neg c3] at H
   have c3b0 : decide ((a0.size : Int) < 1) = false := l3_ c3
   have c3b1 : decide (a0.size < 1) = false := l3_ (by omega)
   clear c3
   (first | rw [c3b0] | (simp only [i64_w, i32_w]; rw [c3b0]) | skip)
   by_cases c4 : (a0.size : Int) > 24
   ·rw [if_pos c4] at H
    have c4b0 : decide (24 < (a0.size : Int)) = true := l2_ c4
    have c4b1 : decide (24 < a0.size) = true := l2_ (by omega)
    clear c4
    have H' := mk0 H
    clear H
    go_wp2
    go_meet
    case rel => exact ⟨_, (true), (by first | rfl | (simp; done) | (simp [*]; done)), H', ⟨by first | omega | exact Nat.le_refl _⟩, by repeat (first | exact Drawn0.refl _ | apply Drawn0.step)⟩
   ·rw [if_neg c4] at H
    have c4b0 : decide (24 < (a0.size : Int)) = false := l3_ c4
    have c4b1 : decide (24 < a0.size) = false := l3_ (by omega)
    clear c4
    by_cases c5 : 0 < (a0.size : Int)
    ·rw [if_pos c5] at H
     have c5b0 : decide (0 < (a0.size : Int)) = true := l2_ c5
     have c5b1 : decide (0 < a0.size) = true := l2_ (by omega)
     clear c5
     by_cases c7 : (bt a0 0) < 97
     ·rw [if_pos c7] at H
      have c7b0 : decide ((bt a0 0) < 97) = true := l2_ c7
      clear c7
      have H' := mk0 H
      clear H
      have p6 : 0 ≤ (0 : Int) := (by omega)
      have q6 : 0 < a0.size := (by have : (0 : Int) < (a0.size : Int) := l0_ (by first | (with_reducible assumption) | assumption); omega)
      have hx6 : ∀ h : 0 < a0.size, ((a0[0]'h).toNat : Int) = bt a0 0 := bt_at a0 0
      clear p6
      have qi6 : (0 < (a0.size : Int)) = True := eq_true (l0_ (by first | (with_reducible assumption) | assumption))
      replace q6 := eq_true q6
      go_wp2
      go_meet
      case rel => exact ⟨_, (true), (by first | rfl | (simp; done) | (simp [*]; done)), H', ⟨by first | omega | exact Nat.le_refl _⟩, by repeat (first | exact Drawn0.refl _ | apply Drawn0.step)⟩
     ·rw [if_neg c7] at H
      have c7b0 : decide ((bt a0 0) < 97) = false := l3_ c7
      clear c7
      have H' := mk0 H
      clear H
      have p6 : 0 ≤ (0 : Int) := (by omega)
      have q6 : 0 < a0.size := (by have : (0 : Int) < (a0.size : Int) := l0_ (by first | (with_reducible assumption) | assumption); omega)
      have hx6 : ∀ h : 0 < a0.size, ((a0[0]'h).toNat : Int) = bt a0 0 := bt_at a0 0
      clear p6
      have qi6 : (0 < (a0.size : Int)) = True := eq_true (l0_ (by first | (with_reducible assumption) | assumption))
      replace q6 := eq_true q6
      have p8 : 0 ≤ (0 : Int) := (by omega)
      have q8 : 0 < a0.size := (by have : (0 : Int) < (a0.size : Int) := l0_ (by first | (with_reducible assumption) | assumption); omega)
      have hx8 : ∀ h : 0 < a0.size, ((a0[0]'h).toNat : Int) = bt a0 0 := bt_at a0 0
      clear p8
      have qi8 : (0 < (a0.size : Int)) = True := eq_true (l0_ (by first | (with_reducible assumption) | assumption))
      replace q8 := eq_true q8
      go_wp2
      go_meet
      case rel => exact ⟨_, (decide ((bt a0 0) > 122)), (by first | rfl | (simp; done) | (simp [*]; done)), H', ⟨by first | omega | exact Nat.le_refl _⟩, by repeat (first | exact Drawn0.refl _ | apply Drawn0.step)⟩
    ·rw [if_neg c5] at H
     exact absurd H (by simp)
 case rest =>
  clear HC2
  try clear p2
  try clear c3
  try clear c3b0
  try clear c3b1
  try clear c4
  try clear c4b0
  try clear c4b1
  try clear c5
  try clear c5b0
  try clear c5b1
  try clear c6
  try clear p6
  try clear q6
  try clear hx6
  try clear qi6
  try clear c7
  try clear c7b0
  try clear p8
  try clear q8
  try clear hx8
  try clear qi8
  try clear p6
  try clear p8
  try clear q6
  try clear q8
  obtain ⟨kq, x21_1, rfl, HA, HJ1, ⟨mc1, rfl⟩⟩ := hcut
  cases kq with
  | zero => exact absurd HA.out (by simp [virgationref02_Name.j0])
  | succ kj1 =>
   have H := HA.out
   clear HA
   simp only [virgationref02_Name.j0] at H
   by_cases c9 : x21_1 = true
   ·subst c9
    have H1 : (some false) = some r := by rw [if_pos rfl] at H; exact H
    clear H
    have H := H1
    clear H1
    obtain rfl := l13_ H
    go_wp2
    go_ret
    exact ⟨by first | rfl | (simp; done) | (simp [*]; done), by repeat (first | exact Drawn0.refl _ | apply Drawn0.step)⟩
   ·replace c9 := Bool.eq_false_iff.mpr c9
    subst c9
    have H1 : (virgationref02_Name.l0 kj1 a0 0) = some r := by rw [if_neg (show ¬ (false = true) by decide)] at H; exact H
    clear H
    have H := H1
    clear H1
    have H' := mk0 H
    clear H
    go_wp2
    go_loopg [3] kj1 (fun kq v3 w' => ∃ (x3_2 : Int), v3 = .int .i64 x3_2 ∧ Aside0 (virgationref02_Name.l0 kq a0 x3_2 = some r) ∧ Aside0 (kq ≤ kj1) ∧ Drawn0 w w')
    case atStart => exact ⟨(0), (by first | rfl | (simp; done) | (simp [*]; done)), H', ⟨Nat.le_refl _⟩, by repeat (first | exact Drawn0.refl _ | apply Drawn0.step)⟩
    case round =>
     clear H'
     try clear c1
     try clear p2
     try clear c3
     try clear c3b0
     try clear c3b1
     try clear c4
     try clear c4b0
     try clear c4b1
     try clear c5
     try clear c5b0
     try clear c5b1
     try clear c6
     try clear p6
     try clear q6
     try clear hx6
     try clear qi6
     try clear c7
     try clear c7b0
     try clear p8
     try clear q8
     try clear hx8
     try clear qi8
     try clear c9
     try clear p2
     try clear p6
     try clear p8
     try clear q6
     try clear q8
     obtain ⟨x3_2, rfl, HA, HK2, ⟨m2, rfl⟩⟩ := hrel
     cases gk with
     | zero => exact absurd HA.out (by simp [virgationref02_Name.l0])
     | succ k2 =>
      have H := HA.out
      clear HA
      simp only [virgationref02_Name.l0] at H
      by_cases c10 : x3_2 < (a0.size : Int)
      ·rw [if_pos c10] at H
       have c10b0 : decide (x3_2 < (a0.size : Int)) = true := l2_ c10
       clear c10
       by_cases c11 : 0 ≤ x3_2
       ·rw [if_pos c11] at H
        have c11b0 : decide (0 ≤ x3_2) = true := l2_ c11
        clear c11
        by_cases c13 : (bt a0 x3_2) < 97
        ·rw [if_pos c13] at H
         have c13b0 : decide ((bt a0 x3_2) < 97) = true := l2_ c13
         clear c13
         by_cases c15 : (bt a0 x3_2) < 48
         ·rw [if_pos c15] at H
          have c15b0 : decide ((bt a0 x3_2) < 48) = true := l2_ c15
          clear c15
          by_cases c17 : (bt a0 x3_2) = 95
          ·rw [if_pos c17] at H
           have c17b0 : ((bt a0 x3_2) == 95) = true := beq_iff_eq.mpr c17
           have c17b1 : ((bt a0 x3_2) != 95) = false := bne_eq_false_iff_eq.mpr c17
           clear c17
           have H' := mk0 H
           clear H
           have p12 : 0 ≤ (x3_2 : Int) := l0_ (by first | (with_reducible assumption) | assumption)
           have q12 : x3_2 < (a0.size : Int) := l0_ (by first | (with_reducible assumption) | assumption)
           have hx12 := bt_at a0 x3_2
           replace p12 := eq_true p12
           replace q12 := eq_true q12
           have p14 : 0 ≤ (x3_2 : Int) := l0_ (by first | (with_reducible assumption) | assumption)
           have q14 : x3_2 < (a0.size : Int) := l0_ (by first | (with_reducible assumption) | assumption)
           have hx14 := bt_at a0 x3_2
           replace p14 := eq_true p14
           replace q14 := eq_true q14
           have p16 : 0 ≤ (x3_2 : Int) := l0_ (by first | (with_reducible assumption) | assumption)
           have q16 : x3_2 < (a0.size : Int) := l0_ (by first | (with_reducible assumption) | assumption)
           have hx16 := bt_at a0 x3_2
           replace p16 := eq_true p16
           replace q16 := eq_true q16
           go_wp2
           go_roundg k2
           case measure => have := HJ1.out; have := HK2.out; omega
           case rel => exact ⟨(wrap64 (x3_2 + 1)), (by first | rfl | (simp; done) | (simp [*]; done)), H', ⟨by have := HJ1.out; have := HK2.out; omega⟩, by repeat (first | exact Drawn0.refl _ | apply Drawn0.step)⟩
          ·rw [if_neg c17] at H
           have c17b0 : ((bt a0 x3_2) == 95) = false := beq_eq_false_iff_ne.mpr c17
           have c17b1 : ((bt a0 x3_2) != 95) = true := bne_iff_ne.mpr c17
           obtain rfl := l13_ H
           have p12 : 0 ≤ (x3_2 : Int) := l0_ (by first | (with_reducible assumption) | assumption)
           have q12 : x3_2 < (a0.size : Int) := l0_ (by first | (with_reducible assumption) | assumption)
           have hx12 := bt_at a0 x3_2
           replace p12 := eq_true p12
           replace q12 := eq_true q12
           have p14 : 0 ≤ (x3_2 : Int) := l0_ (by first | (with_reducible assumption) | assumption)
           have q14 : x3_2 < (a0.size : Int) := l0_ (by first | (with_reducible assumption) | assumption)
           have hx14 := bt_at a0 x3_2
           replace p14 := eq_true p14
           replace q14 := eq_true q14
           have p16 : 0 ≤ (x3_2 : Int) := l0_ (by first | (with_reducible assumption) | assumption)
           have q16 : x3_2 < (a0.size : Int) := l0_ (by first | (with_reducible assumption) | assumption)
           have hx16 := bt_at a0 x3_2
           replace p16 := eq_true p16
           replace q16 := eq_true q16
           go_wp2
           go_ret
           exact ⟨by first | rfl | (simp; done) | (simp [*]; done), by repeat (first | exact Drawn0.refl _ | apply Drawn0.step)⟩
         ·rw [if_neg c15] at H
          have c15b0 : decide ((bt a0 x3_2) < 48) = false := l3_ c15
          clear c15
          by_cases c19 : (bt a0 x3_2) > 57
          ·rw [if_pos c19] at H
           have c19b0 : decide (57 < (bt a0 x3_2)) = true := l2_ c19
           clear c19
           by_cases c21 : (bt a0 x3_2) = 95
           ·rw [if_pos c21] at H
            have c21b0 : ((bt a0 x3_2) == 95) = true := beq_iff_eq.mpr c21
            have c21b1 : ((bt a0 x3_2) != 95) = false := bne_eq_false_iff_eq.mpr c21
            clear c21
            have H' := mk0 H
            clear H
            have p12 : 0 ≤ (x3_2 : Int) := l0_ (by first | (with_reducible assumption) | assumption)
            have q12 : x3_2 < (a0.size : Int) := l0_ (by first | (with_reducible assumption) | assumption)
            have hx12 := bt_at a0 x3_2
            replace p12 := eq_true p12
            replace q12 := eq_true q12
            have p14 : 0 ≤ (x3_2 : Int) := l0_ (by first | (with_reducible assumption) | assumption)
            have q14 : x3_2 < (a0.size : Int) := l0_ (by first | (with_reducible assumption) | assumption)
            have hx14 := bt_at a0 x3_2
            replace p14 := eq_true p14
            replace q14 := eq_true q14
            have p18 : 0 ≤ (x3_2 : Int) := l0_ (by first | (with_reducible assumption) | assumption)
            have q18 : x3_2 < (a0.size : Int) := l0_ (by first | (with_reducible assumption) | assumption)
            have hx18 := bt_at a0 x3_2
            replace p18 := eq_true p18
            replace q18 := eq_true q18
            have p20 : 0 ≤ (x3_2 : Int) := l0_ (by first | (with_reducible assumption) | assumption)
            have q20 : x3_2 < (a0.size : Int) := l0_ (by first | (with_reducible assumption) | assumption)
            have hx20 := bt_at a0 x3_2
            replace p20 := eq_true p20
            replace q20 := eq_true q20
            go_wp2
            go_roundg k2
            case measure => have := HJ1.out; have := HK2.out; omega
            case rel => exact ⟨(wrap64 (x3_2 + 1)), (by first | rfl | (simp; done) | (simp [*]; done)), H', ⟨by have := HJ1.out; have := HK2.out; omega⟩, by repeat (first | exact Drawn0.refl _ | apply Drawn0.step)⟩
           ·rw [if_neg c21] at H
            have c21b0 : ((bt a0 x3_2) == 95) = false := beq_eq_false_iff_ne.mpr c21
            have c21b1 : ((bt a0 x3_2) != 95) = true := bne_iff_ne.mpr c21
            obtain rfl := l13_ H
            have p12 : 0 ≤ (x3_2 : Int) := l0_ (by first | (with_reducible assumption) | assumption)
            have q12 : x3_2 < (a0.size : Int) := l0_ (by first | (with_reducible assumption) | assumption)
            have hx12 := bt_at a0 x3_2
            replace p12 := eq_true p12
            replace q12 := eq_true q12
            have p14 : 0 ≤ (x3_2 : Int) := l0_ (by first | (with_reducible assumption) | assumption)
            have q14 : x3_2 < (a0.size : Int) := l0_ (by first | (with_reducible assumption) | assumption)
            have hx14 := bt_at a0 x3_2
            replace p14 := eq_true p14
            replace q14 := eq_true q14
            have p18 : 0 ≤ (x3_2 : Int) := l0_ (by first | (with_reducible assumption) | assumption)
            have q18 : x3_2 < (a0.size : Int) := l0_ (by first | (with_reducible assumption) | assumption)
            have hx18 := bt_at a0 x3_2
            replace p18 := eq_true p18
            replace q18 := eq_true q18
            have p20 : 0 ≤ (x3_2 : Int) := l0_ (by first | (with_reducible assumption) | assumption)
            have q20 : x3_2 < (a0.size : Int) := l0_ (by first | (with_reducible assumption) | assumption)
            have hx20 := bt_at a0 x3_2
            replace p20 := eq_true p20
            replace q20 := eq_true q20
            go_wp2
            go_ret
            exact ⟨by first | rfl | (simp; done) | (simp [*]; done), by repeat (first | exact Drawn0.refl _ | apply Drawn0.step)⟩
          ·rw [if_neg c19] at H
           have c19b0 : decide (57 < (bt a0 x3_2)) = false := l3_ c19
           clear c19
           have H' := mk0 H
           clear H
           have p12 : 0 ≤ (x3_2 : Int) := l0_ (by first | (with_reducible assumption) | assumption)
           have q12 : x3_2 < (a0.size : Int) := l0_ (by first | (with_reducible assumption) | assumption)
           have hx12 := bt_at a0 x3_2
           replace p12 := eq_true p12
           replace q12 := eq_true q12
           have p14 : 0 ≤ (x3_2 : Int) := l0_ (by first | (with_reducible assumption) | assumption)
           have q14 : x3_2 < (a0.size : Int) := l0_ (by first | (with_reducible assumption) | assumption)
           have hx14 := bt_at a0 x3_2
           replace p14 := eq_true p14
           replace q14 := eq_true q14
           have p18 : 0 ≤ (x3_2 : Int) := l0_ (by first | (with_reducible assumption) | assumption)
           have q18 : x3_2 < (a0.size : Int) := l0_ (by first | (with_reducible assumption) | assumption)
           have hx18 := bt_at a0 x3_2
           replace p18 := eq_true p18
           replace q18 := eq_true q18
           go_wp2
           go_roundg k2
           case measure => have := HJ1.out; have := HK2.out; omega
           case rel => exact ⟨(wrap64 (x3_2 + 1)), (by first | rfl | (simp; done) | (simp [*]; done)), H', ⟨by have := HJ1.out; have := HK2.out; omega⟩, by repeat (first | exact Drawn0.refl _ | apply Drawn0.step)⟩
        ·rw [if_neg c13] at H
         have c13b0 : decide ((bt a0 x3_2) < 97) = false := l3_ c13
         clear c13
         by_cases c23 : (bt a0 x3_2) > 122
         ·rw [if_pos c23] at H
          have c23b0 : decide (122 < (bt a0 x3_2)) = true := l2_ c23
          clear c23
          by_cases c25 : (bt a0 x3_2) < 48
          ·rw [if_pos c25] at H
           have c25b0 : decide ((bt a0 x3_2) < 48) = true := l2_ c25
           clear c25
           by_cases c27 : (bt a0 x3_2) = 95
           ·rw [if_pos c27] at H
            have c27b0 : ((bt a0 x3_2) == 95) = true := beq_iff_eq.mpr c27
            have c27b1 : ((bt a0 x3_2) != 95) = false := bne_eq_false_iff_eq.mpr c27
            clear c27
            have H' := mk0 H
            clear H
            have p12 : 0 ≤ (x3_2 : Int) := l0_ (by first | (with_reducible assumption) | assumption)
            have q12 : x3_2 < (a0.size : Int) := l0_ (by first | (with_reducible assumption) | assumption)
            have hx12 := bt_at a0 x3_2
            replace p12 := eq_true p12
            replace q12 := eq_true q12
            have p22 : 0 ≤ (x3_2 : Int) := l0_ (by first | (with_reducible assumption) | assumption)
            have q22 : x3_2 < (a0.size : Int) := l0_ (by first | (with_reducible assumption) | assumption)
            have hx22 := bt_at a0 x3_2
            replace p22 := eq_true p22
            replace q22 := eq_true q22
            have p24 : 0 ≤ (x3_2 : Int) := l0_ (by first | (with_reducible assumption) | assumption)
            have q24 : x3_2 < (a0.size : Int) := l0_ (by first | (with_reducible assumption) | assumption)
            have hx24 := bt_at a0 x3_2
            replace p24 := eq_true p24
            replace q24 := eq_true q24
            have p26 : 0 ≤ (x3_2 : Int) := l0_ (by first | (with_reducible assumption) | assumption)
            have q26 : x3_2 < (a0.size : Int) := l0_ (by first | (with_reducible assumption) | assumption)
            have hx26 := bt_at a0 x3_2
            replace p26 := eq_true p26
            replace q26 := eq_true q26
            go_wp2
            go_roundg k2
            case measure => have := HJ1.out; have := HK2.out; omega
            case rel => exact ⟨(wrap64 (x3_2 + 1)), (by first | rfl | (simp; done) | (simp [*]; done)), H', ⟨by have := HJ1.out; have := HK2.out; omega⟩, by repeat (first | exact Drawn0.refl _ | apply Drawn0.step)⟩
           ·rw [if_neg c27] at H
            have c27b0 : ((bt a0 x3_2) == 95) = false := beq_eq_false_iff_ne.mpr c27
            have c27b1 : ((bt a0 x3_2) != 95) = true := bne_iff_ne.mpr c27
            obtain rfl := l13_ H
            have p12 : 0 ≤ (x3_2 : Int) := l0_ (by first | (with_reducible assumption) | assumption)
            have q12 : x3_2 < (a0.size : Int) := l0_ (by first | (with_reducible assumption) | assumption)
            have hx12 := bt_at a0 x3_2
            replace p12 := eq_true p12
            replace q12 := eq_true q12
            have p22 : 0 ≤ (x3_2 : Int) := l0_ (by first | (with_reducible assumption) | assumption)
            have q22 : x3_2 < (a0.size : Int) := l0_ (by first | (with_reducible assumption) | assumption)
            have hx22 := bt_at a0 x3_2
            replace p22 := eq_true p22
            replace q22 := eq_true q22
            have p24 : 0 ≤ (x3_2 : Int) := l0_ (by first | (with_reducible assumption) | assumption)
            have q24 : x3_2 < (a0.size : Int) := l0_ (by first | (with_reducible assumption) | assumption)
            have hx24 := bt_at a0 x3_2
            replace p24 := eq_true p24
            replace q24 := eq_true q24
            have p26 : 0 ≤ (x3_2 : Int) := l0_ (by first | (with_reducible assumption) | assumption)
            have q26 : x3_2 < (a0.size : Int) := l0_ (by first | (with_reducible assumption) | assumption)
            have hx26 := bt_at a0 x3_2
            replace p26 := eq_true p26
            replace q26 := eq_true q26
            go_wp2
            go_ret
            exact ⟨by first | rfl | (simp; done) | (simp [*]; done), by repeat (first | exact Drawn0.refl _ | apply Drawn0.step)⟩
          ·rw [if_neg c25] at H
           have c25b0 : decide ((bt a0 x3_2) < 48) = false := l3_ c25
           clear c25
           by_cases c29 : (bt a0 x3_2) > 57
           ·rw [if_pos c29] at H
            have c29b0 : decide (57 < (bt a0 x3_2)) = true := l2_ c29
            clear c29
            by_cases c31 : (bt a0 x3_2) = 95
            ·rw [if_pos c31] at H
             have c31b0 : ((bt a0 x3_2) == 95) = true := beq_iff_eq.mpr c31
             have c31b1 : ((bt a0 x3_2) != 95) = false := bne_eq_false_iff_eq.mpr c31
             clear c31
             have H' := mk0 H
             clear H
             have p12 : 0 ≤ (x3_2 : Int) := l0_ (by first | (with_reducible assumption) | assumption)
             have q12 : x3_2 < (a0.size : Int) := l0_ (by first | (with_reducible assumption) | assumption)
             have hx12 := bt_at a0 x3_2
             replace p12 := eq_true p12
             replace q12 := eq_true q12
             have p22 : 0 ≤ (x3_2 : Int) := l0_ (by first | (with_reducible assumption) | assumption)
             have q22 : x3_2 < (a0.size : Int) := l0_ (by first | (with_reducible assumption) | assumption)
             have hx22 := bt_at a0 x3_2
             replace p22 := eq_true p22
             replace q22 := eq_true q22
             have p24 : 0 ≤ (x3_2 : Int) := l0_ (by first | (with_reducible assumption) | assumption)
             have q24 : x3_2 < (a0.size : Int) := l0_ (by first | (with_reducible assumption) | assumption)
             have hx24 := bt_at a0 x3_2
             replace p24 := eq_true p24
             replace q24 := eq_true q24
             have p28 : 0 ≤ (x3_2 : Int) := l0_ (by first | (with_reducible assumption) | assumption)
             have q28 : x3_2 < (a0.size : Int) := l0_ (by first | (with_reducible assumption) | assumption)
             have hx28 := bt_at a0 x3_2
             replace p28 := eq_true p28
             replace q28 := eq_true q28
             have p30 : 0 ≤ (x3_2 : Int) := l0_ (by first | (with_reducible assumption) | assumption)
             have q30 : x3_2 < (a0.size : Int) := l0_ (by first | (with_reducible assumption) | assumption)
             have hx30 := bt_at a0 x3_2
             replace p30 := eq_true p30
             replace q30 := eq_true q30
             go_wp2
             go_roundg k2
             case measure => have := HJ1.out; have := HK2.out; omega
             case rel => exact ⟨(wrap64 (x3_2 + 1)), (by first | rfl | (simp; done) | (simp [*]; done)), H', ⟨by have := HJ1.out; have := HK2.out; omega⟩, by repeat (first | exact Drawn0.refl _ | apply Drawn0.step)⟩
            ·rw [if_neg c31] at H
             have c31b0 : ((bt a0 x3_2) == 95) = false := beq_eq_false_iff_ne.mpr c31
             have c31b1 : ((bt a0 x3_2) != 95) = true := bne_iff_ne.mpr c31
             obtain rfl := l13_ H
             have p12 : 0 ≤ (x3_2 : Int) := l0_ (by first | (with_reducible assumption) | assumption)
             have q12 : x3_2 < (a0.size : Int) := l0_ (by first | (with_reducible assumption) | assumption)
             have hx12 := bt_at a0 x3_2
             replace p12 := eq_true p12
             replace q12 := eq_true q12
             have p22 : 0 ≤ (x3_2 : Int) := l0_ (by first | (with_reducible assumption) | assumption)
             have q22 : x3_2 < (a0.size : Int) := l0_ (by first | (with_reducible assumption) | assumption)
             have hx22 := bt_at a0 x3_2
             replace p22 := eq_true p22
             replace q22 := eq_true q22
             have p24 : 0 ≤ (x3_2 : Int) := l0_ (by first | (with_reducible assumption) | assumption)
             have q24 : x3_2 < (a0.size : Int) := l0_ (by first | (with_reducible assumption) | assumption)
             have hx24 := bt_at a0 x3_2
             replace p24 := eq_true p24
             replace q24 := eq_true q24
             have p28 : 0 ≤ (x3_2 : Int) := l0_ (by first | (with_reducible assumption) | assumption)
             have q28 : x3_2 < (a0.size : Int) := l0_ (by first | (with_reducible assumption) | assumption)
             have hx28 := bt_at a0 x3_2
             replace p28 := eq_true p28
             replace q28 := eq_true q28
             have p30 : 0 ≤ (x3_2 : Int) := l0_ (by first | (with_reducible assumption) | assumption)
             have q30 : x3_2 < (a0.size : Int) := l0_ (by first | (with_reducible assumption) | assumption)
             have hx30 := bt_at a0 x3_2
             replace p30 := eq_true p30
             replace q30 := eq_true q30
             go_wp2
             go_ret
             exact ⟨by first | rfl | (simp; done) | (simp [*]; done), by repeat (first | exact Drawn0.refl _ | apply Drawn0.step)⟩
           ·rw [if_neg c29] at H
            have c29b0 : decide (57 < (bt a0 x3_2)) = false := l3_ c29
            clear c29
            have H' := mk0 H
            clear H
            have p12 : 0 ≤ (x3_2 : Int) := l0_ (by first | (with_reducible assumption) | assumption)
            have q12 : x3_2 < (a0.size : Int) := l0_ (by first | (with_reducible assumption) | assumption)
            have hx12 := bt_at a0 x3_2
            replace p12 := eq_true p12
            replace q12 := eq_true q12
            have p22 : 0 ≤ (x3_2 : Int) := l0_ (by first | (with_reducible assumption) | assumption)
            have q22 : x3_2 < (a0.size : Int) := l0_ (by first | (with_reducible assumption) | assumption)
            have hx22 := bt_at a0 x3_2
            replace p22 := eq_true p22
            replace q22 := eq_true q22
            have p24 : 0 ≤ (x3_2 : Int) := l0_ (by first | (with_reducible assumption) | assumption)
            have q24 : x3_2 < (a0.size : Int) := l0_ (by first | (with_reducible assumption) | assumption)
            have hx24 := bt_at a0 x3_2
            replace p24 := eq_true p24
            replace q24 := eq_true q24
            have p28 : 0 ≤ (x3_2 : Int) := l0_ (by first | (with_reducible assumption) | assumption)
            have q28 : x3_2 < (a0.size : Int) := l0_ (by first | (with_reducible assumption) | assumption)
            have hx28 := bt_at a0 x3_2
            replace p28 := eq_true p28
            replace q28 := eq_true q28
            go_wp2
            go_roundg k2
            case measure => have := HJ1.out; have := HK2.out; omega
            case rel => exact ⟨(wrap64 (x3_2 + 1)), (by first | rfl | (simp; done) | (simp [*]; done)), H', ⟨by have := HJ1.out; have := HK2.out; omega⟩, by repeat (first | exact Drawn0.refl _ | apply Drawn0.step)⟩
         ·rw [if_neg c23] at H
          have c23b0 : decide (122 < (bt a0 x3_2)) = false := l3_ c23
          clear c23
          have H' := mk0 H
          clear H
          have p12 : 0 ≤ (x3_2 : Int) := l0_ (by first | (with_reducible assumption) | assumption)
          have q12 : x3_2 < (a0.size : Int) := l0_ (by first | (with_reducible assumption) | assumption)
          have hx12 := bt_at a0 x3_2
          replace p12 := eq_true p12
          replace q12 := eq_true q12
          have p22 : 0 ≤ (x3_2 : Int) := l0_ (by first | (with_reducible assumption) | assumption)
          have q22 : x3_2 < (a0.size : Int) := l0_ (by first | (with_reducible assumption) | assumption)
          have hx22 := bt_at a0 x3_2
          replace p22 := eq_true p22
          replace q22 := eq_true q22
          go_wp2
          go_roundg k2
          case measure => have := HJ1.out; have := HK2.out; omega
          case rel => exact ⟨(wrap64 (x3_2 + 1)), (by first | rfl | (simp; done) | (simp [*]; done)), H', ⟨by have := HJ1.out; have := HK2.out; omega⟩, by repeat (first | exact Drawn0.refl _ | apply Drawn0.step)⟩
       ·rw [if_neg c11] at H
        exact absurd H (by simp)
      ·rw [if_neg c10] at H
       have c10b0 : decide (x3_2 < (a0.size : Int)) = false := l3_ c10
       clear c10
       obtain rfl := l13_ H
       go_wp2
       go_ret
       exact ⟨by first | rfl | (simp; done) | (simp [*]; done), by repeat (first | exact Drawn0.refl _ | apply Drawn0.step)⟩
mutual
def virgationref02_Symbols.l0 : Nat → List (S71) → List (S71) → Int → Int → Option (Bool)
 | 0, _, _, _, _ => none
 | k + 1, x0, x10, x11, x12 => if x12 < x11 then (if 0 ≤ x12 then (if x12 < (x10.length : Int) then ((virgationref02_Name.f k ((rd_T71 x10 x12).f0)).bind fun t166 => (if t166 = true then (if ((rd_T71 x10 x12).f1) < 0 then (virgationref02_Symbols.j1 k x0 x12 x10 x11 x12 true ((rd_T71 x10 x12).f0) ((rd_T71 x10 x12).f1)) else (virgationref02_Symbols.j1 k x0 x12 x10 x11 x12 (decide (((rd_T71 x10 x12).f1) > 4)) ((rd_T71 x10 x12).f0) ((rd_T71 x10 x12).f1))) else (virgationref02_Symbols.j1 k x0 x12 x10 x11 x12 true ((rd_T71 x10 x12).f0) ((rd_T71 x10 x12).f1)))) else (none)) else (none)) else (some true)
def virgationref02_Symbols.j1 : Nat → List (S71) → Int → List (S71) → Int → Int → Bool → ByteArray → Int → Option (Bool)
 | 0, _, _, _, _, _, _, _, _ => none
 | k + 1, x0, x3, x10, x11, x12, x30, x166000, x166001 => if x30 = true then (some false) else (if 0 ≤ x3 then (if x3 ≤ (x0.length : Int) then ((some (x0.take (x3 : Int).toNat : List (S71))).bind fun y167 => (virgationref02_Symbols.l1 k x0 x10 x11 x12 y167 (y167.length : Int) 0 x166000 x166001)) else (none)) else (none))
def virgationref02_Symbols.l1 : Nat → List (S71) → List (S71) → Int → Int → List (S71) → Int → Int → ByteArray → Int → Option (Bool)
 | 0, _, _, _, _, _, _, _, _, _ => none
 | k + 1, x0, x10, x11, x12, x33, x34, x35, x166000, x166001 => if x35 < x34 then (if 0 ≤ x35 then (if x35 < (x33.length : Int) then (if x166000.toList = ((rd_T71 x33 x35).f0).toList then (some false) else (virgationref02_Symbols.l1 k x0 x10 x11 x12 x33 x34 (wrap64 (x35 + 1)) x166000 x166001)) else (none)) else (none)) else (virgationref02_Symbols.l0 k x0 x10 x11 (wrap64 (x12 + 1)))
end
def virgationref02_Symbols.f (k : Nat) (l0 : List (S71)) : Option (Bool) := if (l0.length : Int) > 24 then (some false) else (virgationref02_Symbols.l0 k l0 l0 (l0.length : Int) 0)
set_option maxHeartbeats 8000000 in
set_option maxRecDepth 100000 in
theorem virgationref02_Symbols.calls (k : Nat) (A0 : Option Addr) (c0 : Nat) (l0 : List (S71)) (r : Bool) (w : World) (hr0 : Kd.C k71 w A0 l0.length l0) (hc0 : l0.length ≤ c0) (h : virgationref02_Symbols.f k l0 = some r) :
  Calls Tryz.prog 36 #[.slice A0 l0.length c0] w fun e w' => e = .returned (.bool r) ∧ Below w.heap.size w w' := by
 have hu71 := Tryz.underlying71
 have HR0 := mk0 hr0
 have HC0 := mk0 hc0
 clear hr0 hc0
 have HB := mk0 (Below.refl w.heap.size w)
 have H : (if (l0.length : Int) > 24 then (some false) else (virgationref02_Symbols.l0 k l0 l0 (l0.length : Int) 0)) = some r := h
 clear h
 by_cases c2 : (l0.length : Int) > 24
 ·rw [if_pos c2] at H
  have c2b0 : decide (24 < (l0.length : Int)) = true := l2_ c2
  have c2b1 : decide (24 < l0.length) = true := l2_ (by omega)
  clear c2
  obtain rfl := l13_ H
  go_enter Tryz.func36, Tryz.ntmps36
  go_wp2
  go_ret
  exact ⟨by first | rfl | (simp [aR_, aQ_] <;> rfl) | (simp [*, aR_, aQ_] <;> rfl), by repeat (first | (with_reducible first | exact HB.out | apply aA_ | apply aB_ | apply aD_) | exact HB.out)⟩
 ·rw [if_neg c2] at H
  have c2b0 : decide (24 < (l0.length : Int)) = false := l3_ c2
  have c2b1 : decide (24 < l0.length) = false := l3_ (by omega)
  clear c2
  have H' := mk0 H
  clear H
  go_enter Tryz.func36, Tryz.ntmps36
  go_wp2
  go_loopg [12] k (fun kq v12 w' => ∃ (x12_1 : Int), v12 = .int .i64 x12_1 ∧ Aside0 (virgationref02_Symbols.l0 kq l0 l0 (l0.length : Int) x12_1 = some r) ∧ Aside0 (kq ≤ k) ∧ Aside0 (Below w.heap.size w w'))
  case atStart => exact ⟨(0), (by first | rfl | (simp; done) | (simp [*]; done)), H', ⟨Nat.le_refl _⟩, ⟨by repeat (first | (with_reducible first | exact HB.out | apply aA_ | apply aB_ | apply aD_) | exact HB.out)⟩⟩
  case round =>
   clear H'
   try clear c2
   try clear c2b0
   try clear c2b1
   try clear p2
   obtain ⟨x12_1, rfl, HA, HK1, HB⟩ := hrel
   cases gk with
   | zero => exact absurd HA.out (by simp [virgationref02_Symbols.l0])
   | succ k1 =>
    have H := HA.out
    clear HA
    simp only [virgationref02_Symbols.l0] at H
    by_cases c3 : x12_1 < (l0.length : Int)
    ·rw [if_pos c3] at H
     have c3b0 : decide (x12_1 < (l0.length : Int)) = true := l2_ c3
     clear c3
     by_cases c4 : 0 ≤ x12_1
     ·rw [if_pos c4] at H
      have c4b0 : decide (0 ≤ x12_1) = true := l2_ c4
      clear c4
      by_cases c5 : x12_1 < (l0.length : Int)
      ·rw [if_pos c5] at H
       have c5b0 : decide (x12_1 < (l0.length : Int)) = true := l2_ c5
       clear c5
       have HC6 := mk0 H
       clear H
       have p164 : 0 ≤ (x12_1 : Int) := l0_ (by first | (with_reducible assumption) | assumption)
       have q164 : x12_1 < (l0.length : Int) := l0_ (by first | (with_reducible assumption) | assumption)
       obtain ⟨ad164, e164, hx164_0, hx164_1⟩ := at_T71 HR0.out x12_1 p164 q164
       cases e164
       replace hx164_0 := (HB.out.cell (l1_ w _ hx164_0)).trans hx164_0
       replace hx164_1 := (HB.out.cell (l1_ w _ hx164_1)).trans hx164_1
       replace p164 := eq_true p164
       replace q164 := eq_true q164
       go_upto_region 6 with (first | ((with_reducible refine gate_dst (N := 4) rfl ?_); refine box_event ?hg (N := 4) ?hd (cs := #[.string (⟨#[]⟩ : ByteArray), .int .i64 0]) (t := 71) ?hr ?_; (case hd => rfl); (case hg => rfl); (case hr => first | (go_simp; done) | (go_simp; rfl)); intro gb165 hg w7 hbox hb; have n0_ := mk0 (aP_ (by repeat (first | (with_reducible first | exact HB.out | apply aA_ | apply aB_ | apply aD_) | exact HB.out)) hb); have n1_ := mk0 (hbox); have n2_ := mk0 ((by rw [hg]; exact (aM_ (by repeat (first | (with_reducible first | exact HB.out | apply aA_ | apply aB_ | apply aD_) | exact HB.out))) : w.heap.size ≤ gb165)); have n3_ := mk0 ((by rw [hg]; exact (aM_ (by repeat (first | (with_reducible first | exact HB.out | apply aA_ | apply aB_ | apply aD_) | exact HB.out))) : w.heap.size ≤ gb165)); clear HB; have HB := n0_; have BK165 := n1_; have GW165 := n2_; have GE165 := n3_; clear n0_ n1_ n2_ n3_; clear hb hbox hg; have hcz8_0 : w7.cell? ⟨gb165, 0, none⟩ = some (.string (⟨#[]⟩ : ByteArray)) := (aC_ BK165.out 0).trans rfl; have hcz8_1 : w7.cell? ⟨gb165, 1, none⟩ = some (.int .i64 0) := (aC_ BK165.out 1).trans rfl; have hfz8_0 := aF_ BK165.out 0; have hfz8_1 := aF_ BK165.out 1))
       (try simp only [Act.put, l4_, l5_, l6_])
       go_cut [30] (fun v30 wc => ∃ (kq : Nat) (x30_5 : Bool), v30 = .bool x30_5 ∧ Aside0 (virgationref02_Symbols.j1 kq l0 x12_1 l0 (l0.length : Int) x12_1 x30_5 ((rd_T71 l0 x12_1).f0) ((rd_T71 l0 x12_1).f1) = some r) ∧ Aside0 (kq ≤ k1) ∧ Aside0 (wc.heap[gb165]? = some (.cells #[.string ((rd_T71 l0 x12_1).f0), .int .i64 ((rd_T71 l0 x12_1).f1)] 71 (0, 0))) ∧ Aside0 (Below w.heap.size w wc))
       case first =>
        have H := HC6.out
        clear HC6
        replace H := Option.bind_eq_some_iff.mp H
        obtain ⟨t166, A90, H⟩ := H
        replace H : (if t166 = true then (if ((rd_T71 l0 x12_1).f1) < 0 then (virgationref02_Symbols.j1 k1 l0 x12_1 l0 (l0.length : Int) x12_1 true ((rd_T71 l0 x12_1).f0) ((rd_T71 l0 x12_1).f1)) else (virgationref02_Symbols.j1 k1 l0 x12_1 l0 (l0.length : Int) x12_1 (decide (((rd_T71 l0 x12_1).f1) > 4)) ((rd_T71 l0 x12_1).f0) ((rd_T71 l0 x12_1).f1))) else (virgationref02_Symbols.j1 k1 l0 x12_1 l0 (l0.length : Int) x12_1 true ((rd_T71 l0 x12_1).f0) ((rd_T71 l0 x12_1).f1))) = some r := H
        have A9 := mk0 A90
        clear A90
        by_cases c10 : t166 = true
        ·subst c10
         have H1 : (if ((rd_T71 l0 x12_1).f1) < 0 then (virgationref02_Symbols.j1 k1 l0 x12_1 l0 (l0.length : Int) x12_1 true ((rd_T71 l0 x12_1).f0) ((rd_T71 l0 x12_1).f1)) else (virgationref02_Symbols.j1 k1 l0 x12_1 l0 (l0.length : Int) x12_1 (decide (((rd_T71 l0 x12_1).f1) > 4)) ((rd_T71 l0 x12_1).f0) ((rd_T71 l0 x12_1).f1))) = some r := by rw [if_pos rfl] at H; exact H
         clear H
         have H := H1
         clear H1
         by_cases c11 : ((rd_T71 l0 x12_1).f1) < 0
         ·rw [if_pos c11] at H
          have c11b0 : decide (((rd_T71 l0 x12_1).f1) < 0) = true := l2_ c11
          clear c11
          (first | rw [c11b0] | (simp only [i64_w, i32_w]; rw [c11b0]) | skip)
          have H' := mk0 H
          clear H
          have hcz12_0 : w7.cell? ⟨gb165, 0, none⟩ = some (.string (⟨#[]⟩ : ByteArray)) := (aC_ BK165.out 0).trans rfl
          have hcz12_1 : w7.cell? ⟨gb165, 1, none⟩ = some (.int .i64 0) := (aC_ BK165.out 1).trans rfl
          have hfz12_0 := aF_ BK165.out 0
          have hfz12_1 := aF_ BK165.out 1
          go_wp2_with (first | ((with_reducible refine gate_callee (f := 64) rfl ?_); refine goesL_ (some 19) rfl rfl Tryz.func64 (by kernel_rfl) rfl #[.string ((rd_T71 l0 x12_1).f0)] rfl (by (try simp only [List.map_toArray, List.map_cons, List.map_nil]); first | done | rfl | (simp only [l9_, List.length_take]; rfl)) ?_; (with_reducible refine (virgationref02_Name.calls k1 ((rd_T71 l0 x12_1).f0) true _ A9.out).mono ?_); rintro e w' ⟨rfl, ⟨nd, rfl⟩⟩; refine ⟨_, rfl, ?_⟩))
          go_meet
          case rel => exact ⟨_, (true), (by first | rfl | (simp; done) | (simp [*]; done)), H', ⟨by have := HK1.out; first | omega | exact Nat.le_refl _⟩, ⟨by (with_reducible repeat (first | refine aH_ ?_ _ | refine aK_ ?_ | refine aE_ ?_ _)); refine blk_put (cs := #[.string ((rd_T71 l0 x12_1).f0), .int .i64 0]) ?_ 1 _ rfl; (with_reducible repeat (first | refine aH_ ?_ _ | refine aK_ ?_ | refine aE_ ?_ _)); refine blk_put (cs := #[.string (⟨#[]⟩ : ByteArray), .int .i64 0]) ?_ 0 _ rfl; (with_reducible repeat (first | refine aH_ ?_ _ | refine aK_ ?_ | refine aE_ ?_ _)); exact BK165.out⟩, ⟨by repeat (first | (with_reducible first | exact HB.out | apply aA_ | apply aB_ | apply aD_ | refine aG_ ?_ GE165.out) | exact HB.out)⟩⟩
         ·rw [if_neg c11] at H
          have c11b0 : decide (((rd_T71 l0 x12_1).f1) < 0) = false := l3_ c11
          clear c11
          (first | rw [c11b0] | (simp only [i64_w, i32_w]; rw [c11b0]) | skip)
          have H' := mk0 H
          clear H
          have hcz13_0 : w7.cell? ⟨gb165, 0, none⟩ = some (.string (⟨#[]⟩ : ByteArray)) := (aC_ BK165.out 0).trans rfl
          have hcz13_1 : w7.cell? ⟨gb165, 1, none⟩ = some (.int .i64 0) := (aC_ BK165.out 1).trans rfl
          have hfz13_0 := aF_ BK165.out 0
          have hfz13_1 := aF_ BK165.out 1
          go_wp2_with (first | ((with_reducible refine gate_callee (f := 64) rfl ?_); refine goesL_ (some 19) rfl rfl Tryz.func64 (by kernel_rfl) rfl #[.string ((rd_T71 l0 x12_1).f0)] rfl (by (try simp only [List.map_toArray, List.map_cons, List.map_nil]); first | done | rfl | (simp only [l9_, List.length_take]; rfl)) ?_; (with_reducible refine (virgationref02_Name.calls k1 ((rd_T71 l0 x12_1).f0) true _ A9.out).mono ?_); rintro e w' ⟨rfl, ⟨nd, rfl⟩⟩; refine ⟨_, rfl, ?_⟩))
          go_meet
          case rel => exact ⟨_, (decide (((rd_T71 l0 x12_1).f1) > 4)), (by first | rfl | (simp; done) | (simp [*]; done)), H', ⟨by have := HK1.out; first | omega | exact Nat.le_refl _⟩, ⟨by (with_reducible repeat (first | refine aH_ ?_ _ | refine aK_ ?_ | refine aE_ ?_ _)); refine blk_put (cs := #[.string ((rd_T71 l0 x12_1).f0), .int .i64 0]) ?_ 1 _ rfl; (with_reducible repeat (first | refine aH_ ?_ _ | refine aK_ ?_ | refine aE_ ?_ _)); refine blk_put (cs := #[.string (⟨#[]⟩ : ByteArray), .int .i64 0]) ?_ 0 _ rfl; (with_reducible repeat (first | refine aH_ ?_ _ | refine aK_ ?_ | refine aE_ ?_ _)); exact BK165.out⟩, ⟨by repeat (first | (with_reducible first | exact HB.out | apply aA_ | apply aB_ | apply aD_ | refine aG_ ?_ GE165.out) | exact HB.out)⟩⟩
        ·replace c10 := Bool.eq_false_iff.mpr c10
         subst c10
         have H1 : (virgationref02_Symbols.j1 k1 l0 x12_1 l0 (l0.length : Int) x12_1 true ((rd_T71 l0 x12_1).f0) ((rd_T71 l0 x12_1).f1)) = some r := by rw [if_neg (show ¬ (false = true) by decide)] at H; exact H
         clear H
         have H := H1
         clear H1
         have H' := mk0 H
         clear H
         have hcz14_0 : w7.cell? ⟨gb165, 0, none⟩ = some (.string (⟨#[]⟩ : ByteArray)) := (aC_ BK165.out 0).trans rfl
         have hcz14_1 : w7.cell? ⟨gb165, 1, none⟩ = some (.int .i64 0) := (aC_ BK165.out 1).trans rfl
         have hfz14_0 := aF_ BK165.out 0
         have hfz14_1 := aF_ BK165.out 1
         go_wp2_with (first | ((with_reducible refine gate_callee (f := 64) rfl ?_); refine goesL_ (some 19) rfl rfl Tryz.func64 (by kernel_rfl) rfl #[.string ((rd_T71 l0 x12_1).f0)] rfl (by (try simp only [List.map_toArray, List.map_cons, List.map_nil]); first | done | rfl | (simp only [l9_, List.length_take]; rfl)) ?_; (with_reducible refine (virgationref02_Name.calls k1 ((rd_T71 l0 x12_1).f0) false _ A9.out).mono ?_); rintro e w' ⟨rfl, ⟨nd, rfl⟩⟩; refine ⟨_, rfl, ?_⟩))
         go_meet
         case rel => exact ⟨_, (true), (by first | rfl | (simp; done) | (simp [*]; done)), H', ⟨by have := HK1.out; first | omega | exact Nat.le_refl _⟩, ⟨by (with_reducible repeat (first | refine aH_ ?_ _ | refine aK_ ?_ | refine aE_ ?_ _)); refine blk_put (cs := #[.string ((rd_T71 l0 x12_1).f0), .int .i64 0]) ?_ 1 _ rfl; (with_reducible repeat (first | refine aH_ ?_ _ | refine aK_ ?_ | refine aE_ ?_ _)); refine blk_put (cs := #[.string (⟨#[]⟩ : ByteArray), .int .i64 0]) ?_ 0 _ rfl; (with_reducible repeat (first | refine aH_ ?_ _ | refine aK_ ?_ | refine aE_ ?_ _)); exact BK165.out⟩, ⟨by repeat (first | (with_reducible first | exact HB.out | apply aA_ | apply aB_ | apply aD_ | refine aG_ ?_ GE165.out) | exact HB.out)⟩⟩
       case rest =>
        clear HC6
        try clear c1
        try clear p1
        try clear q1
        try clear hx1
        try clear c2
        try clear c2b0
        try clear c2b1
        try clear p2
        try clear c3
        try clear c3b0
        try clear c4
        try clear c4b0
        try clear c5
        try clear c5b0
        try clear c6
        try clear c10
        try clear c11
        try clear c11b0
        try clear hcz12_0
        try clear hcz12_1
        try clear hcz13_0
        try clear hcz13_1
        try clear hcz14_0
        try clear hcz14_1
        try clear hcz8_0
        try clear hcz8_1
        try clear hfz12_0
        try clear hfz12_1
        try clear hfz13_0
        try clear hfz13_1
        try clear hfz14_0
        try clear hfz14_1
        try clear hfz8_0
        try clear hfz8_1
        try clear hx164_0
        try clear hx164_1
        try clear p164
        try clear p2
        try clear q164
        obtain ⟨kq, x30_5, rfl, HA, HJ5, BK165, HB⟩ := hcut
        cases kq with
        | zero => exact absurd HA.out (by simp [virgationref02_Symbols.j1])
        | succ kj5 =>
         have H := HA.out
         clear HA
         simp only [virgationref02_Symbols.j1] at H
         by_cases c15 : x30_5 = true
         ·subst c15
          have H1 : (some false) = some r := by rw [if_pos rfl] at H; exact H
          clear H
          have H := H1
          clear H1
          obtain rfl := l13_ H
          go_wp2
          go_ret
          exact ⟨by first | rfl | (simp [aR_, aQ_] <;> rfl) | (simp [*, aR_, aQ_] <;> rfl), by repeat (first | (with_reducible first | exact HB.out | apply aA_ | apply aB_ | apply aD_ | refine aG_ ?_ GE165.out) | exact HB.out)⟩
         ·replace c15 := Bool.eq_false_iff.mpr c15
          subst c15
          have H1 : (if 0 ≤ x12_1 then (if x12_1 ≤ (l0.length : Int) then ((some (l0.take (x12_1 : Int).toNat : List (S71))).bind fun y167 => (virgationref02_Symbols.l1 kj5 l0 l0 (l0.length : Int) x12_1 y167 (y167.length : Int) 0 ((rd_T71 l0 x12_1).f0) ((rd_T71 l0 x12_1).f1))) else (none)) else (none)) = some r := by rw [if_neg (show ¬ (false = true) by decide)] at H; exact H
          clear H
          have H := H1
          clear H1
          by_cases c16 : 0 ≤ x12_1
          ·rw [if_pos c16] at H
           have c16b0 := eq_true c16
           have c16b1 : decide (0 ≤ x12_1) = true := l2_ c16
           clear c16
           by_cases c17 : x12_1 ≤ (l0.length : Int)
           ·rw [if_pos c17] at H
            have c17b0 := eq_true c17
            have c17b1 : decide (x12_1 ≤ (l0.length : Int)) = true := l2_ c17
            clear c17
            obtain ⟨y167, hy167⟩ : ∃ y_ : List (S71), y_ = (l0.take (x12_1 : Int).toNat) := ⟨_, rfl⟩
            replace H : (virgationref02_Symbols.l1 kj5 l0 l0 (l0.length : Int) x12_1 y167 (y167.length : Int) 0 ((rd_T71 l0 x12_1).f0) ((rd_T71 l0 x12_1).f1)) = some r := by first | (rw [hy167]; with_reducible exact H) | (have H2_ := (l23_ _ _).symm.trans H; rw [hy167]; with_reducible exact H2_) | (have H2_ := (l23_ _ _).symm.trans H; with_reducible exact H2_) | with_reducible exact H | (rw [hy167]; exact H) | exact H
            have Ny167 := mk0 hy167
            clear hy167
            have H' := mk0 H
            clear H
            have q18 : (x12_1 : Int) ≤ ((l0.length : Int) : Int) := l0_ (by first | (with_reducible assumption) | assumption)
            obtain ⟨i018, hi018, _, hsz18, _⟩ := info_parts info71
            have hroom18 : l0.length ≤ c0 := HC0.out
            have hC18 : Kd.C k71 _ (some ad164) l0.length l0 := HR0.out
            have hcut18 := cut_to (P := Tryz.prog) 22 71 .i64 Tryz.underlying22 hi018 (some ad164) l0.length c0 x12_1 (l0_ (by first | (with_reducible assumption) | assumption)) q18 hroom18
            have hr18 := Kd.C_take (m := (x12_1 : Int).toNat) hC18 (by omega)
            have hy18 : y167.length = (x12_1 : Int).toNat := (by rw [Ny167.out, List.length_take]; omega)
            rw [← Ny167.out] at hr18
            rw [← hy18] at hcut18
            have HR170 := mk0 hr18
            have HC170 := mk0 (show y167.length ≤ c0 from by omega)
            clear hr18 hC18 hroom18 hi018 hsz18
            have KY18 := mk0 hy18
            clear hy18
            replace q18 := eq_true q18
            go_wp2
            go_loopg [35] kj5 (fun kq v35 w' => ∃ (x35_3 : Int), v35 = .int .i64 x35_3 ∧ Aside0 (virgationref02_Symbols.l1 kq l0 l0 (l0.length : Int) x12_1 y167 (y167.length : Int) x35_3 ((rd_T71 l0 x12_1).f0) ((rd_T71 l0 x12_1).f1) = some r) ∧ Aside0 (kq ≤ kj5) ∧ Aside0 (w'.heap[gb165]? = some (.cells #[.string ((rd_T71 l0 x12_1).f0), .int .i64 ((rd_T71 l0 x12_1).f1)] 71 (0, 0))) ∧ Aside0 (Below w.heap.size w w'))
            case atStart => exact ⟨(0), (by first | rfl | (simp; done) | (simp [*]; done)), H', ⟨Nat.le_refl _⟩, ⟨by (with_reducible repeat (first | refine aH_ ?_ _ | refine aK_ ?_ | refine aE_ ?_ _)); exact BK165.out⟩, ⟨by repeat (first | (with_reducible first | exact HB.out | apply aA_ | apply aB_ | apply aD_ | refine aG_ ?_ GE165.out) | exact HB.out)⟩⟩
            case round =>
             clear H'
             try clear c1
             try clear p1
             try clear q1
             try clear hx1
             try clear c2
             try clear c2b0
             try clear c2b1
             try clear p2
             try clear c3
             try clear c3b0
             try clear c4
             try clear c4b0
             try clear c5
             try clear c5b0
             try clear c6
             try clear c10
             try clear c11
             try clear c11b0
             try clear c15
             try clear c16
             try clear c16b0
             try clear c16b1
             try clear p16
             try clear q16
             try clear hx16
             try clear c17
             try clear c17b0
             try clear c17b1
             try clear q18
             try clear hcz12_0
             try clear hcz12_1
             try clear hcz13_0
             try clear hcz13_1
             try clear hcz14_0
             try clear hcz14_1
             try clear hcz8_0
             try clear hcz8_1
             try clear hfz12_0
             try clear hfz12_1
             try clear hfz13_0
             try clear hfz13_1
             try clear hfz14_0
             try clear hfz14_1
             try clear hfz8_0
             try clear hfz8_1
             try clear hx164_0
             try clear hx164_1
             try clear p1
             try clear p164
             try clear p2
             try clear q1
             try clear q164
             try clear q18
             obtain ⟨x35_3, rfl, HA, HK3, BK165, HB⟩ := hrel
             cases gk with
             | zero => exact absurd HA.out (by simp [virgationref02_Symbols.l1])
             | succ k3 =>
              have H := HA.out
              clear HA
              simp only [virgationref02_Symbols.l1] at H
              by_cases c19 : x35_3 < (y167.length : Int)
              ·rw [if_pos c19] at H
               have c19b0 : decide (x35_3 < (y167.length : Int)) = true := l2_ c19
               clear c19
               by_cases c20 : 0 ≤ x35_3
               ·rw [if_pos c20] at H
                have c20b0 : decide (0 ≤ x35_3) = true := l2_ c20
                clear c20
                by_cases c21 : x35_3 < (y167.length : Int)
                ·rw [if_pos c21] at H
                 have c21b0 : decide (x35_3 < (y167.length : Int)) = true := l2_ c21
                 clear c21
                 by_cases c22 : ((rd_T71 l0 x12_1).f0).toList = ((rd_T71 y167 x35_3).f0).toList
                 ·rw [if_pos c22] at H
                  have c22b0 : (((rd_T71 l0 x12_1).f0).toList == ((rd_T71 y167 x35_3).f0).toList) = true := beq_iff_eq.mpr c22
                  have c22b1 : (((rd_T71 l0 x12_1).f0).toList != ((rd_T71 y167 x35_3).f0).toList) = false := bne_eq_false_iff_eq.mpr c22
                  clear c22
                  obtain rfl := l13_ H
                  have p171 : 0 ≤ (x35_3 : Int) := l0_ (by first | (with_reducible assumption) | assumption)
                  have q171 : x35_3 < (y167.length : Int) := l0_ (by first | (with_reducible assumption) | assumption)
                  obtain ⟨ad171, e171, hx171_0, hx171_1⟩ := at_T71 HR170.out x35_3 p171 q171
                  obtain rfl : ad164 = ad171 := (by injection e171)
                  replace hx171_0 := (HB.out.cell (l1_ w _ hx171_0)).trans hx171_0
                  replace hx171_1 := (HB.out.cell (l1_ w _ hx171_1)).trans hx171_1
                  replace p171 := eq_true p171
                  replace q171 := eq_true q171
                  go_wp2_with (first | ((with_reducible refine gate_dst (N := 6) rfl ?_); refine box_event ?hg (N := 6) ?hd (cs := #[.string (⟨#[]⟩ : ByteArray), .int .i64 0]) (t := 71) ?hr ?_; (case hd => rfl); (case hg => rfl); (case hr => first | (go_simp; done) | (go_simp; rfl)); intro gb172 hg w23 hbox hb; have n0_ := mk0 (aJ_ (g := gb165) (o := .cells #[.string ((rd_T71 l0 x12_1).f0), .int .i64 ((rd_T71 l0 x12_1).f1)] 71 (0, 0)) (by (with_reducible repeat (first | refine aH_ ?_ _ | refine aK_ ?_ | refine aE_ ?_ _)); exact BK165.out) hb); have n1_ := mk0 (aP_ (by repeat (first | (with_reducible first | exact HB.out | apply aA_ | apply aB_ | apply aD_ | refine aG_ ?_ GE165.out) | exact HB.out)) hb); have n2_ := mk0 (hbox); have n3_ := mk0 ((by rw [hg]; exact (aM_ (by repeat (first | (with_reducible first | exact HB.out | apply aA_ | apply aB_ | apply aD_ | refine aG_ ?_ GE165.out) | exact HB.out))) : w.heap.size ≤ gb172)); have n4_ := mk0 ((by rw [hg]; exact (aM_ (by repeat (first | (with_reducible first | exact HB.out | apply aA_ | apply aB_ | apply aD_ | refine aG_ ?_ GE165.out) | exact HB.out))) : w.heap.size ≤ gb172)); have n5_ := mk0 ((by rw [hg]; exact Nat.ne_of_lt (blk_lt (g := gb165) (o := .cells #[.string ((rd_T71 l0 x12_1).f0), .int .i64 ((rd_T71 l0 x12_1).f1)] 71 (0, 0)) (by (with_reducible repeat (first | refine aH_ ?_ _ | refine aK_ ?_ | refine aE_ ?_ _)); exact BK165.out)) : gb165 ≠ gb172)); have n6_ := mk0 ((by rw [hg]; exact Nat.ne_of_gt (blk_lt (g := gb165) (o := .cells #[.string ((rd_T71 l0 x12_1).f0), .int .i64 ((rd_T71 l0 x12_1).f1)] 71 (0, 0)) (by (with_reducible repeat (first | refine aH_ ?_ _ | refine aK_ ?_ | refine aE_ ?_ _)); exact BK165.out)) : gb172 ≠ gb165)); clear BK165; clear HB; have BK165 := n0_; have HB := n1_; have BK172 := n2_; have GW172 := n3_; have GE172 := n4_; have NB165_172 := n5_; have NB172_165 := n6_; clear n0_ n1_ n2_ n3_ n4_ n5_ n6_; clear hb hbox hg; have hnb24 := NB172_165.out; have hnc24 := NB165_172.out; have hcz25_0 : w23.cell? ⟨gb172, 0, none⟩ = some (.string (⟨#[]⟩ : ByteArray)) := (aC_ BK172.out 0).trans rfl; have hcz25_1 : w23.cell? ⟨gb172, 1, none⟩ = some (.int .i64 0) := (aC_ BK172.out 1).trans rfl; have hfz25_0 := aF_ BK172.out 0; have hfz25_1 := aF_ BK172.out 1; have hcz26_0 : w23.cell? ⟨gb165, 0, none⟩ = some (.string ((rd_T71 l0 x12_1).f0)) := (aC_ BK165.out 0).trans rfl; have hcz26_1 : w23.cell? ⟨gb165, 1, none⟩ = some (.int .i64 ((rd_T71 l0 x12_1).f1)) := (aC_ BK165.out 1).trans rfl; have hfz26_0 := aF_ BK165.out 0; have hfz26_1 := aF_ BK165.out 1))
                  go_ret
                  exact ⟨by first | rfl | (simp [aR_, aQ_] <;> rfl) | (simp [*, aR_, aQ_] <;> rfl), by repeat (first | (with_reducible first | exact HB.out | apply aA_ | apply aB_ | apply aD_ | refine aG_ ?_ GE165.out | refine aG_ ?_ GE172.out) | exact HB.out)⟩
                 ·rw [if_neg c22] at H
                  have c22b0 : (((rd_T71 l0 x12_1).f0).toList == ((rd_T71 y167 x35_3).f0).toList) = false := beq_eq_false_iff_ne.mpr c22
                  have c22b1 : (((rd_T71 l0 x12_1).f0).toList != ((rd_T71 y167 x35_3).f0).toList) = true := bne_iff_ne.mpr c22
                  have H' := mk0 H
                  clear H
                  have p171 : 0 ≤ (x35_3 : Int) := l0_ (by first | (with_reducible assumption) | assumption)
                  have q171 : x35_3 < (y167.length : Int) := l0_ (by first | (with_reducible assumption) | assumption)
                  obtain ⟨ad171, e171, hx171_0, hx171_1⟩ := at_T71 HR170.out x35_3 p171 q171
                  obtain rfl : ad164 = ad171 := (by injection e171)
                  replace hx171_0 := (HB.out.cell (l1_ w _ hx171_0)).trans hx171_0
                  replace hx171_1 := (HB.out.cell (l1_ w _ hx171_1)).trans hx171_1
                  replace p171 := eq_true p171
                  replace q171 := eq_true q171
                  go_wp2_with (first | ((with_reducible refine gate_dst (N := 6) rfl ?_); refine box_event ?hg (N := 6) ?hd (cs := #[.string (⟨#[]⟩ : ByteArray), .int .i64 0]) (t := 71) ?hr ?_; (case hd => rfl); (case hg => rfl); (case hr => first | (go_simp; done) | (go_simp; rfl)); intro gb172 hg w27 hbox hb; have n0_ := mk0 (aJ_ (g := gb165) (o := .cells #[.string ((rd_T71 l0 x12_1).f0), .int .i64 ((rd_T71 l0 x12_1).f1)] 71 (0, 0)) (by (with_reducible repeat (first | refine aH_ ?_ _ | refine aK_ ?_ | refine aE_ ?_ _)); exact BK165.out) hb); have n1_ := mk0 (aP_ (by repeat (first | (with_reducible first | exact HB.out | apply aA_ | apply aB_ | apply aD_ | refine aG_ ?_ GE165.out) | exact HB.out)) hb); have n2_ := mk0 (hbox); have n3_ := mk0 ((by rw [hg]; exact (aM_ (by repeat (first | (with_reducible first | exact HB.out | apply aA_ | apply aB_ | apply aD_ | refine aG_ ?_ GE165.out) | exact HB.out))) : w.heap.size ≤ gb172)); have n4_ := mk0 ((by rw [hg]; exact (aM_ (by repeat (first | (with_reducible first | exact HB.out | apply aA_ | apply aB_ | apply aD_ | refine aG_ ?_ GE165.out) | exact HB.out))) : w.heap.size ≤ gb172)); have n5_ := mk0 ((by rw [hg]; exact Nat.ne_of_lt (blk_lt (g := gb165) (o := .cells #[.string ((rd_T71 l0 x12_1).f0), .int .i64 ((rd_T71 l0 x12_1).f1)] 71 (0, 0)) (by (with_reducible repeat (first | refine aH_ ?_ _ | refine aK_ ?_ | refine aE_ ?_ _)); exact BK165.out)) : gb165 ≠ gb172)); have n6_ := mk0 ((by rw [hg]; exact Nat.ne_of_gt (blk_lt (g := gb165) (o := .cells #[.string ((rd_T71 l0 x12_1).f0), .int .i64 ((rd_T71 l0 x12_1).f1)] 71 (0, 0)) (by (with_reducible repeat (first | refine aH_ ?_ _ | refine aK_ ?_ | refine aE_ ?_ _)); exact BK165.out)) : gb172 ≠ gb165)); clear BK165; clear HB; have BK165 := n0_; have HB := n1_; have BK172 := n2_; have GW172 := n3_; have GE172 := n4_; have NB165_172 := n5_; have NB172_165 := n6_; clear n0_ n1_ n2_ n3_ n4_ n5_ n6_; clear hb hbox hg; have hnb28 := NB172_165.out; have hnc28 := NB165_172.out; have hcz29_0 : w27.cell? ⟨gb172, 0, none⟩ = some (.string (⟨#[]⟩ : ByteArray)) := (aC_ BK172.out 0).trans rfl; have hcz29_1 : w27.cell? ⟨gb172, 1, none⟩ = some (.int .i64 0) := (aC_ BK172.out 1).trans rfl; have hfz29_0 := aF_ BK172.out 0; have hfz29_1 := aF_ BK172.out 1; have hcz30_0 : w27.cell? ⟨gb165, 0, none⟩ = some (.string ((rd_T71 l0 x12_1).f0)) := (aC_ BK165.out 0).trans rfl; have hcz30_1 : w27.cell? ⟨gb165, 1, none⟩ = some (.int .i64 ((rd_T71 l0 x12_1).f1)) := (aC_ BK165.out 1).trans rfl; have hfz30_0 := aF_ BK165.out 0; have hfz30_1 := aF_ BK165.out 1))
                  go_roundg k3
                  case measure => have := HK1.out; have := HJ5.out; have := HK3.out; omega
                  case rel => exact ⟨(wrap64 (x35_3 + 1)), (by first | rfl | (simp; done) | (simp [*]; done)), H', ⟨by have := HK1.out; have := HJ5.out; have := HK3.out; omega⟩, ⟨by (with_reducible repeat (first | refine aH_ ?_ _ | refine aK_ ?_ | refine aE_ ?_ _)); refine blk_far ?_ NB165_172.out _; (with_reducible repeat (first | refine aH_ ?_ _ | refine aK_ ?_ | refine aE_ ?_ _)); refine blk_far ?_ NB165_172.out _; (with_reducible repeat (first | refine aH_ ?_ _ | refine aK_ ?_ | refine aE_ ?_ _)); exact BK165.out⟩, ⟨by repeat (first | (with_reducible first | exact HB.out | apply aA_ | apply aB_ | apply aD_ | refine aG_ ?_ GE165.out | refine aG_ ?_ GE172.out) | exact HB.out)⟩⟩
                ·rw [if_neg c21] at H
                 exact absurd H (by simp)
               ·rw [if_neg c20] at H
                exact absurd H (by simp)
              ·rw [if_neg c19] at H
               have c19b0 : decide (x35_3 < (y167.length : Int)) = false := l3_ c19
               clear c19
               have H' := mk0 H
               clear H
               go_wp2
               go_roundg k3
               case measure => have := HK1.out; have := HJ5.out; have := HK3.out; omega
               case rel => exact ⟨(wrap64 (x12_1 + 1)), (by first | rfl | (simp; done) | (simp [*]; done)), H', ⟨by have := HK1.out; have := HJ5.out; have := HK3.out; omega⟩, ⟨by repeat (first | (with_reducible first | exact HB.out | apply aA_ | apply aB_ | apply aD_ | refine aG_ ?_ GE165.out) | exact HB.out)⟩⟩
           ·rw [if_neg c17] at H
            exact absurd H (by simp)
          ·rw [if_neg c16] at H
           exact absurd H (by simp)
      ·rw [if_neg c5] at H
       exact absurd H (by simp)
     ·rw [if_neg c4] at H
      exact absurd H (by simp)
    ·rw [if_neg c3] at H
     have c3b0 : decide (x12_1 < (l0.length : Int)) = false := l3_ c3
     clear c3
     obtain rfl := l13_ H
     go_wp2
     go_ret
     exact ⟨by first | rfl | (simp [aR_, aQ_] <;> rfl) | (simp [*, aR_, aQ_] <;> rfl), by repeat (first | (with_reducible first | exact HB.out | apply aA_ | apply aB_ | apply aD_) | exact HB.out)⟩
mutual
def virgationref02_Nodes.l0 : Nat → Int → Int → Int → Int → Int → List (S50) → Option (Int)
 | 0, _, _, _, _, _, _ => none
 | k + 1, x1, x5, x6, x174000, x174001, x174002 => if x6 < (x174002.length : Int) then (if x5 ≤ x1 then (if 0 ≤ x6 then ((virgationref02_Nodes.f k ((rd_T50 x174002 x6).f0) ((rd_T50 x174002 x6).f1) ((rd_T50 x174002 x6).f2) (wrap64 (x1 - x5))).bind fun t175 => (virgationref02_Nodes.l0 k x1 (wrap64 (x5 + t175)) (wrap64 (x6 + 1)) x174000 x174001 x174002)) else (none)) else (some x5)) else (some x5)
def virgationref02_Nodes.f : Nat → Int → Int → List (S50) → Int → Option (Int)
 | 0, _, _, _, _ => none
 | k + 1, a0_0, a0_1, l0_2, a1 => virgationref02_Nodes.l0 k a1 1 0 a0_0 a0_1 l0_2
end
set_option maxHeartbeats 8000000 in
set_option maxRecDepth 100000 in
theorem virgationref02_Nodes.calls (k : Nat) : ∀ (a0_0 : Int) (a0_1 : Int) (A0_2 : Option Addr) (c0_2 : Nat) (l0_2 : List (S50)) (a1 : Int) (r : Int) (w : World) (hr0_2 : Kd.C k50 w A0_2 l0_2.length l0_2) (hc0_2 : l0_2.length ≤ c0_2) (h : virgationref02_Nodes.f k a0_0 a0_1 l0_2 a1 = some r),
  Calls Tryz.prog 65 #[.agg #[.int .i64 a0_0, .int .i64 a0_1, .slice A0_2 l0_2.length c0_2], .int .i64 a1] w fun e w' => e = .returned (.int .i64 r) ∧ Below w.heap.size w w' := by
 induction k using Nat.strongRecOn with
 | _ k ih =>
 intro a0_0 a0_1 A0_2 c0_2 l0_2 a1 r w hr0_2 hc0_2 h
 cases k with
 | zero => exact absurd h (by simp [virgationref02_Nodes.f])
 | succ k =>
 simp only [virgationref02_Nodes.f] at h
 have hu50 := Tryz.underlying50
 have HR0_2 := mk0 hr0_2
 have HC0_2 := mk0 hc0_2
 clear hr0_2 hc0_2
 have HB := mk0 (Below.refl w.heap.size w)
 have H : (virgationref02_Nodes.l0 k a1 1 0 a0_0 a0_1 l0_2) = some r := h
 clear h
 have H' := mk0 H
 clear H
 go_enter Tryz.func65, Tryz.ntmps65
 go_wp2_with (first | ((with_reducible refine gate_dst (N := 2) rfl ?_); refine box_event ?hg (N := 2) ?hd (cs := #[.int .i64 a0_0, .int .i64 a0_1, .slice A0_2 l0_2.length c0_2]) (t := 50) ?hr ?_; (case hd => rfl); (case hg => rfl); (case hr => first | (go_simp; done) | (go_simp; rfl)); intro gb173 hg w3 hbox hb; have n0_ := mk0 (aP_ (by repeat (first | (with_reducible first | exact HB.out | apply aA_ | apply aB_ | apply aD_) | exact HB.out)) hb); have n1_ := mk0 (hbox); have n2_ := mk0 ((by rw [hg]; exact (aM_ (by repeat (first | (with_reducible first | exact HB.out | apply aA_ | apply aB_ | apply aD_) | exact HB.out))) : w.heap.size ≤ gb173)); have n3_ := mk0 ((by rw [hg]; exact (aM_ (by repeat (first | (with_reducible first | exact HB.out | apply aA_ | apply aB_ | apply aD_) | exact HB.out))) : w.heap.size ≤ gb173)); clear HB; have HB := n0_; have BK173 := n1_; have GW173 := n2_; have GE173 := n3_; clear n0_ n1_ n2_ n3_; clear hb hbox hg))
 go_loopg [5, 6] k (fun kq v5 v6 w' => ∃ (x5_1 : Int) (x6_1 : Int), v5 = .int .i64 x5_1 ∧ v6 = .int .i64 x6_1 ∧ Aside0 (virgationref02_Nodes.l0 kq a1 x5_1 x6_1 a0_0 a0_1 l0_2 = some r) ∧ Aside0 (kq ≤ k) ∧ Aside0 (w'.heap[gb173]? = some (.cells #[.int .i64 a0_0, .int .i64 a0_1, (.slice A0_2 l0_2.length c0_2)] 50 (0, 0))) ∧ Aside0 (Below w.heap.size w w'))
 case atStart => exact ⟨(1), (0), (by first | rfl | (simp; done) | (simp [*]; done)), (by first | rfl | (simp; done) | (simp [*]; done)), H', ⟨Nat.le_refl _⟩, ⟨by (with_reducible repeat (first | refine aH_ ?_ _ | refine aK_ ?_ | refine aE_ ?_ _)); exact BK173.out⟩, ⟨by repeat (first | (with_reducible first | exact HB.out | apply aA_ | apply aB_ | apply aD_ | refine aG_ ?_ GE173.out) | exact HB.out)⟩⟩
 case round =>
  clear H'
  try clear p2
  obtain ⟨x5_1, x6_1, rfl, rfl, HA, HK1, BK173, HB⟩ := hrel
  cases gk with
  | zero => exact absurd HA.out (by simp [virgationref02_Nodes.l0])
  | succ k1 =>
   have H := HA.out
   clear HA
   simp only [virgationref02_Nodes.l0] at H
   by_cases c4 : x6_1 < (l0_2.length : Int)
   ·rw [if_pos c4] at H
    have c4b0 : decide (x6_1 < (l0_2.length : Int)) = true := l2_ c4
    clear c4
    by_cases c5 : x5_1 ≤ a1
    ·rw [if_pos c5] at H
     have c5b0 : decide (x5_1 ≤ a1) = true := l2_ c5
     clear c5
     by_cases c6 : 0 ≤ x6_1
     ·rw [if_pos c6] at H
      have c6b0 : decide (0 ≤ x6_1) = true := l2_ c6
      clear c6
      replace H := Option.bind_eq_some_iff.mp H
      obtain ⟨t175, A70, H⟩ := H
      replace H : (virgationref02_Nodes.l0 k1 a1 (wrap64 (x5_1 + t175)) (wrap64 (x6_1 + 1)) a0_0 a0_1 l0_2) = some r := H
      have A7 := mk0 A70
      clear A70
      have H' := mk0 H
      clear H
      have hcz8_0 : wr.cell? ⟨gb173, 0, none⟩ = some (.int .i64 a0_0) := (aC_ BK173.out 0).trans rfl
      have hcz8_1 : wr.cell? ⟨gb173, 1, none⟩ = some (.int .i64 a0_1) := (aC_ BK173.out 1).trans rfl
      have hcz8_2 : wr.cell? ⟨gb173, 2, none⟩ = some (.slice A0_2 l0_2.length c0_2) := (aC_ BK173.out 2).trans rfl
      have hfz8_0 := aF_ BK173.out 0
      have hfz8_1 := aF_ BK173.out 1
      have hfz8_2 := aF_ BK173.out 2
      have p174 : 0 ≤ (x6_1 : Int) := l0_ (by first | (with_reducible assumption) | assumption)
      have q174 : x6_1 < (l0_2.length : Int) := l0_ (by first | (with_reducible assumption) | assumption)
      obtain ⟨ad174, A174_2, c174_2, e174, hx174_0, hx174_1, hx174_2, hl174_2, hi174_2⟩ := at_T50 HR0_2.out x6_1 p174 q174
      cases e174
      replace hx174_0 := (HB.out.cell (l1_ w _ hx174_0)).trans hx174_0
      replace hx174_1 := (HB.out.cell (l1_ w _ hx174_1)).trans hx174_1
      replace hx174_2 := (HB.out.cell (l1_ w _ hx174_2)).trans hx174_2
      have HR174_2 := mk0 hi174_2
      have HC174_2 := mk0 hl174_2
      clear hi174_2 hl174_2
      replace p174 := eq_true p174
      replace q174 := eq_true q174
      go_wp2_with (first | ((with_reducible refine gate_callee (f := 65) rfl ?_); refine goesL_ (some 28) rfl rfl Tryz.func65 (by kernel_rfl) rfl #[.agg #[.int .i64 ((rd_T50 l0_2 x6_1).f0), .int .i64 ((rd_T50 l0_2 x6_1).f1), .slice A174_2 ((rd_T50 l0_2 x6_1).f2).length c174_2], .int .i64 (wrap64 (a1 - x5_1))] rfl (by (try simp only [List.map_toArray, List.map_cons, List.map_nil]); first | done | rfl | (simp only [l9_, List.length_take]; rfl)) ?_; (with_reducible refine (ih k1 (by have := HK1.out; omega) ((rd_T50 l0_2 x6_1).f0) ((rd_T50 l0_2 x6_1).f1) _ _ ((rd_T50 l0_2 x6_1).f2) (wrap64 (a1 - x5_1)) t175 _ ?side1 ?side2 A7.out).mono ?_); (case side1 => repeat (first | exact (Kd.C_below HR174_2.out HB.out) | (with_reducible refine Kd.C_alloc ?_ _) | (with_reducible refine Kd.C_drewN ?_ _) | (with_reducible refine Kd.C_drew ?_))); (case side2 => exact HC174_2.out); rintro e w9 ⟨rfl, hb⟩; refine ⟨_, rfl, ?_⟩; have n0_ := mk0 (aJ_ (g := gb173) (o := .cells #[.int .i64 a0_0, .int .i64 a0_1, .slice (some ad174) l0_2.length c0_2] 50 (0, 0)) (by (with_reducible repeat (first | refine aH_ ?_ _ | refine aK_ ?_ | refine aE_ ?_ _)); exact BK173.out) hb); have n1_ := mk0 (aP_ (by repeat (first | (with_reducible first | exact HB.out | apply aA_ | apply aB_ | apply aD_ | refine aG_ ?_ GE173.out) | exact HB.out)) hb); clear BK173; clear HB; have BK173 := n0_; have HB := n1_; clear n0_ n1_; (try clear hb); (try clear hb2); (try clear hk); (try clear hi)))
      go_roundg k1
      case measure => have := HK1.out; omega
      case rel => exact ⟨(wrap64 (x5_1 + t175)), (wrap64 (x6_1 + 1)), (by first | rfl | (simp; done) | (simp [*]; done)), (by first | rfl | (simp; done) | (simp [*]; done)), H', ⟨by have := HK1.out; omega⟩, ⟨by (with_reducible repeat (first | refine aH_ ?_ _ | refine aK_ ?_ | refine aE_ ?_ _)); exact BK173.out⟩, ⟨by repeat (first | (with_reducible first | exact HB.out | apply aA_ | apply aB_ | apply aD_ | refine aG_ ?_ GE173.out) | exact HB.out)⟩⟩
     ·rw [if_neg c6] at H
      exact absurd H (by simp)
    ·rw [if_neg c5] at H
     have c5b0 : decide (x5_1 ≤ a1) = false := l3_ c5
     clear c5
     obtain rfl := l13_ H
     have hcz10_0 : wr.cell? ⟨gb173, 0, none⟩ = some (.int .i64 a0_0) := (aC_ BK173.out 0).trans rfl
     have hcz10_1 : wr.cell? ⟨gb173, 1, none⟩ = some (.int .i64 a0_1) := (aC_ BK173.out 1).trans rfl
     have hcz10_2 : wr.cell? ⟨gb173, 2, none⟩ = some (.slice A0_2 l0_2.length c0_2) := (aC_ BK173.out 2).trans rfl
     have hfz10_0 := aF_ BK173.out 0
     have hfz10_1 := aF_ BK173.out 1
     have hfz10_2 := aF_ BK173.out 2
     go_wp2
     go_ret
     exact ⟨by first | rfl | (simp [aR_, aQ_] <;> rfl) | (simp [*, aR_, aQ_] <;> rfl), by repeat (first | (with_reducible first | exact HB.out | apply aA_ | apply aB_ | apply aD_ | refine aG_ ?_ GE173.out) | exact HB.out)⟩
   ·rw [if_neg c4] at H
    have c4b0 : decide (x6_1 < (l0_2.length : Int)) = false := l3_ c4
    clear c4
    obtain rfl := l13_ H
    have hcz11_0 : wr.cell? ⟨gb173, 0, none⟩ = some (.int .i64 a0_0) := (aC_ BK173.out 0).trans rfl
    have hcz11_1 : wr.cell? ⟨gb173, 1, none⟩ = some (.int .i64 a0_1) := (aC_ BK173.out 1).trans rfl
    have hcz11_2 : wr.cell? ⟨gb173, 2, none⟩ = some (.slice A0_2 l0_2.length c0_2) := (aC_ BK173.out 2).trans rfl
    have hfz11_0 := aF_ BK173.out 0
    have hfz11_1 := aF_ BK173.out 1
    have hfz11_2 := aF_ BK173.out 2
    go_wp2
    go_ret
    exact ⟨by first | rfl | (simp [aR_, aQ_] <;> rfl) | (simp [*, aR_, aQ_] <;> rfl), by repeat (first | (with_reducible first | exact HB.out | apply aA_ | apply aB_ | apply aD_ | refine aG_ ?_ GE173.out) | exact HB.out)⟩
mutual
def virgationref02_Depth.l0 : Nat → Int → List (S50) → Int → Int → Option (Int)
 | 0, _, _, _, _ => none
 | k + 1, x3, x7, x8, x9 => if x9 < x8 then (if 0 ≤ x9 then (if x9 < (x7.length : Int) then ((virgationref02_Depth.f k ((rd_T50 x7 x9).f0) ((rd_T50 x7 x9).f1) ((rd_T50 x7 x9).f2)).bind fun t179 => (virgationref02_Depth.l0 k (mx x3 t179) x7 x8 (wrap64 (x9 + 1)))) else (none)) else (none)) else (some (wrap64 (x3 + 1)))
def virgationref02_Depth.f : Nat → Int → Int → List (S50) → Option (Int)
 | 0, _, _, _ => none
 | k + 1, a0_0, a0_1, l0_2 => virgationref02_Depth.l0 k 0 l0_2 (l0_2.length : Int) 0
end
set_option maxHeartbeats 8000000 in
set_option maxRecDepth 100000 in
theorem virgationref02_Depth.calls (k : Nat) : ∀ (a0_0 : Int) (a0_1 : Int) (A0_2 : Option Addr) (c0_2 : Nat) (l0_2 : List (S50)) (r : Int) (w : World) (hr0_2 : Kd.C k50 w A0_2 l0_2.length l0_2) (hc0_2 : l0_2.length ≤ c0_2) (h : virgationref02_Depth.f k a0_0 a0_1 l0_2 = some r),
  Calls Tryz.prog 66 #[.agg #[.int .i64 a0_0, .int .i64 a0_1, .slice A0_2 l0_2.length c0_2]] w fun e w' => e = .returned (.int .i64 r) ∧ Below w.heap.size w w' := by
 induction k using Nat.strongRecOn with
 | _ k ih =>
 intro a0_0 a0_1 A0_2 c0_2 l0_2 r w hr0_2 hc0_2 h
 cases k with
 | zero => exact absurd h (by simp [virgationref02_Depth.f])
 | succ k =>
 simp only [virgationref02_Depth.f] at h
 have hu50 := Tryz.underlying50
 have HR0_2 := mk0 hr0_2
 have HC0_2 := mk0 hc0_2
 clear hr0_2 hc0_2
 have HB := mk0 (Below.refl w.heap.size w)
 have H : (virgationref02_Depth.l0 k 0 l0_2 (l0_2.length : Int) 0) = some r := h
 clear h
 have H' := mk0 H
 clear H
 go_enter Tryz.func66, Tryz.ntmps66
 go_wp2_with (first | ((with_reducible refine gate_dst (N := 1) rfl ?_); refine box_event ?hg (N := 1) ?hd (cs := #[.int .i64 a0_0, .int .i64 a0_1, .slice A0_2 l0_2.length c0_2]) (t := 50) ?hr ?_; (case hd => rfl); (case hg => rfl); (case hr => first | (go_simp; done) | (go_simp; rfl)); intro gb176 hg w2 hbox hb; have n0_ := mk0 (aP_ (by repeat (first | (with_reducible first | exact HB.out | apply aA_ | apply aB_ | apply aD_) | exact HB.out)) hb); have n1_ := mk0 (hbox); have n2_ := mk0 ((by rw [hg]; exact (aM_ (by repeat (first | (with_reducible first | exact HB.out | apply aA_ | apply aB_ | apply aD_) | exact HB.out))) : w.heap.size ≤ gb176)); have n3_ := mk0 ((by rw [hg]; exact (aM_ (by repeat (first | (with_reducible first | exact HB.out | apply aA_ | apply aB_ | apply aD_) | exact HB.out))) : w.heap.size ≤ gb176)); clear HB; have HB := n0_; have BK176 := n1_; have GW176 := n2_; have GE176 := n3_; clear n0_ n1_ n2_ n3_; clear hb hbox hg; have hcz3_0 : w2.cell? ⟨gb176, 0, none⟩ = some (.int .i64 a0_0) := (aC_ BK176.out 0).trans rfl; have hcz3_1 : w2.cell? ⟨gb176, 1, none⟩ = some (.int .i64 a0_1) := (aC_ BK176.out 1).trans rfl; have hcz3_2 : w2.cell? ⟨gb176, 2, none⟩ = some (.slice A0_2 l0_2.length c0_2) := (aC_ BK176.out 2).trans rfl; have hfz3_0 := aF_ BK176.out 0; have hfz3_1 := aF_ BK176.out 1; have hfz3_2 := aF_ BK176.out 2))
 go_loopg [3, 9] k (fun kq v3 v9 w' => ∃ (x3_1 : Int) (x9_1 : Int), v3 = .int .i64 x3_1 ∧ v9 = .int .i64 x9_1 ∧ Aside0 (virgationref02_Depth.l0 kq x3_1 l0_2 (l0_2.length : Int) x9_1 = some r) ∧ Aside0 (kq ≤ k) ∧ Aside0 (w'.heap[gb176]? = some (.cells #[.int .i64 a0_0, .int .i64 a0_1, (.slice A0_2 l0_2.length c0_2)] 50 (0, 0))) ∧ Aside0 (Below w.heap.size w w'))
 case atStart => exact ⟨(0), (0), (by first | rfl | (simp; done) | (simp [*]; done)), (by first | rfl | (simp; done) | (simp [*]; done)), H', ⟨Nat.le_refl _⟩, ⟨by (with_reducible repeat (first | refine aH_ ?_ _ | refine aK_ ?_ | refine aE_ ?_ _)); exact BK176.out⟩, ⟨by repeat (first | (with_reducible first | exact HB.out | apply aA_ | apply aB_ | apply aD_ | refine aG_ ?_ GE176.out) | exact HB.out)⟩⟩
 case round =>
  clear H'
  try clear p2
  try clear hcz3_0
  try clear hcz3_1
  try clear hcz3_2
  try clear hfz3_0
  try clear hfz3_1
  try clear hfz3_2
  obtain ⟨x3_1, x9_1, rfl, rfl, HA, HK1, BK176, HB⟩ := hrel
  cases gk with
  | zero => exact absurd HA.out (by simp [virgationref02_Depth.l0])
  | succ k1 =>
   have H := HA.out
   clear HA
   simp only [virgationref02_Depth.l0] at H
   by_cases c4 : x9_1 < (l0_2.length : Int)
   ·rw [if_pos c4] at H
    have c4b0 : decide (x9_1 < (l0_2.length : Int)) = true := l2_ c4
    clear c4
    by_cases c5 : 0 ≤ x9_1
    ·rw [if_pos c5] at H
     have c5b0 : decide (0 ≤ x9_1) = true := l2_ c5
     clear c5
     by_cases c6 : x9_1 < (l0_2.length : Int)
     ·rw [if_pos c6] at H
      have c6b0 : decide (x9_1 < (l0_2.length : Int)) = true := l2_ c6
      clear c6
      replace H := Option.bind_eq_some_iff.mp H
      obtain ⟨t179, A70, H⟩ := H
      replace H : (virgationref02_Depth.l0 k1 (mx x3_1 t179) l0_2 (l0_2.length : Int) (wrap64 (x9_1 + 1))) = some r := H
      have A7 := mk0 A70
      clear A70
      obtain ⟨ji8, hji8⟩ : ∃ j_ : Int, (mx x3_1 t179) = j_ := ⟨_, rfl⟩
      replace H : (virgationref02_Depth.l0 k1 ji8 l0_2 (l0_2.length : Int) (wrap64 (x9_1 + 1))) = some r := by first | (rw [hji8] at H; exact H) | (simp only [hji8] at H ⊢; exact H)
      (try rw [hji8] at A7)
      have hji8_ : (if x3_1 < t179 then t179 else x3_1) = ji8 := hji8
      have H' := mk0 H
      clear H
      have p177 : 0 ≤ (x9_1 : Int) := l0_ (by first | (with_reducible assumption) | assumption)
      have q177 : x9_1 < (l0_2.length : Int) := l0_ (by first | (with_reducible assumption) | assumption)
      obtain ⟨ad177, A177_2, c177_2, e177, hx177_0, hx177_1, hx177_2, hl177_2, hi177_2⟩ := at_T50 HR0_2.out x9_1 p177 q177
      cases e177
      replace hx177_0 := (HB.out.cell (l1_ w _ hx177_0)).trans hx177_0
      replace hx177_1 := (HB.out.cell (l1_ w _ hx177_1)).trans hx177_1
      replace hx177_2 := (HB.out.cell (l1_ w _ hx177_2)).trans hx177_2
      have HR177_2 := mk0 hi177_2
      have HC177_2 := mk0 hl177_2
      clear hi177_2 hl177_2
      replace p177 := eq_true p177
      replace q177 := eq_true q177
      go_wp2_with (first | ((with_reducible refine gate_dst (N := 5) rfl ?_); refine box_event ?hg (N := 5) ?hd (cs := #[.int .i64 0, .int .i64 0, .slice none 0 0]) (t := 50) ?hr ?_; (case hd => rfl); (case hg => rfl); (case hr => first | (go_simp; done) | (go_simp; rfl)); intro gb178 hg w9 hbox hb; have n0_ := mk0 (aJ_ (g := gb176) (o := .cells #[.int .i64 a0_0, .int .i64 a0_1, .slice (some ad177) l0_2.length c0_2] 50 (0, 0)) (by (with_reducible repeat (first | refine aH_ ?_ _ | refine aK_ ?_ | refine aE_ ?_ _)); exact BK176.out) hb); have n1_ := mk0 (aP_ (by repeat (first | (with_reducible first | exact HB.out | apply aA_ | apply aB_ | apply aD_ | refine aG_ ?_ GE176.out) | exact HB.out)) hb); have n2_ := mk0 (hbox); have n3_ := mk0 ((by rw [hg]; exact (aM_ (by repeat (first | (with_reducible first | exact HB.out | apply aA_ | apply aB_ | apply aD_ | refine aG_ ?_ GE176.out) | exact HB.out))) : w.heap.size ≤ gb178)); have n4_ := mk0 ((by rw [hg]; exact (aM_ (by repeat (first | (with_reducible first | exact HB.out | apply aA_ | apply aB_ | apply aD_ | refine aG_ ?_ GE176.out) | exact HB.out))) : w.heap.size ≤ gb178)); have n5_ := mk0 ((by rw [hg]; exact Nat.ne_of_lt (blk_lt (g := gb176) (o := .cells #[.int .i64 a0_0, .int .i64 a0_1, .slice (some ad177) l0_2.length c0_2] 50 (0, 0)) (by (with_reducible repeat (first | refine aH_ ?_ _ | refine aK_ ?_ | refine aE_ ?_ _)); exact BK176.out)) : gb176 ≠ gb178)); have n6_ := mk0 ((by rw [hg]; exact Nat.ne_of_gt (blk_lt (g := gb176) (o := .cells #[.int .i64 a0_0, .int .i64 a0_1, .slice (some ad177) l0_2.length c0_2] 50 (0, 0)) (by (with_reducible repeat (first | refine aH_ ?_ _ | refine aK_ ?_ | refine aE_ ?_ _)); exact BK176.out)) : gb178 ≠ gb176)); clear BK176; clear HB; have BK176 := n0_; have HB := n1_; have BK178 := n2_; have GW178 := n3_; have GE178 := n4_; have NB176_178 := n5_; have NB178_176 := n6_; clear n0_ n1_ n2_ n3_ n4_ n5_ n6_; clear hb hbox hg; have hnb10 := NB178_176.out; have hnc10 := NB176_178.out; have hcz11_0 : w9.cell? ⟨gb178, 0, none⟩ = some (.int .i64 0) := (aC_ BK178.out 0).trans rfl; have hcz11_1 : w9.cell? ⟨gb178, 1, none⟩ = some (.int .i64 0) := (aC_ BK178.out 1).trans rfl; have hcz11_2 : w9.cell? ⟨gb178, 2, none⟩ = some (.slice none 0 0) := (aC_ BK178.out 2).trans rfl; have hfz11_0 := aF_ BK178.out 0; have hfz11_1 := aF_ BK178.out 1; have hfz11_2 := aF_ BK178.out 2) | ((with_reducible refine gate_callee (f := 66) rfl ?_); refine goesL_ (some 15) rfl rfl Tryz.func66 (by kernel_rfl) rfl #[.agg #[.int .i64 ((rd_T50 l0_2 x9_1).f0), .int .i64 ((rd_T50 l0_2 x9_1).f1), .slice A177_2 ((rd_T50 l0_2 x9_1).f2).length c177_2]] rfl (by (try simp only [List.map_toArray, List.map_cons, List.map_nil]); first | done | rfl | (simp only [l9_, List.length_take]; rfl)) ?_; (with_reducible refine (ih k1 (by have := HK1.out; omega) ((rd_T50 l0_2 x9_1).f0) ((rd_T50 l0_2 x9_1).f1) _ _ ((rd_T50 l0_2 x9_1).f2) t179 _ ?side1 ?side2 A7.out).mono ?_); (case side1 => exact Kd.C_below HR177_2.out (by repeat (first | (with_reducible first | exact HB.out | apply aA_ | apply aB_ | apply aD_ | refine aG_ ?_ GE176.out | refine aG_ ?_ GE178.out) | exact HB.out))); (case side2 => exact HC177_2.out); rintro e w12 ⟨rfl, hb⟩; refine ⟨_, rfl, ?_⟩; have n0_ := mk0 (aJ_ (g := gb176) (o := .cells #[.int .i64 a0_0, .int .i64 a0_1, .slice (some ad177) l0_2.length c0_2] 50 (0, 0)) (by (with_reducible repeat (first | refine aH_ ?_ _ | refine aK_ ?_ | refine aE_ ?_ _)); refine blk_far ?_ NB176_178.out _; (with_reducible repeat (first | refine aH_ ?_ _ | refine aK_ ?_ | refine aE_ ?_ _)); refine blk_far ?_ NB176_178.out _; (with_reducible repeat (first | refine aH_ ?_ _ | refine aK_ ?_ | refine aE_ ?_ _)); refine blk_far ?_ NB176_178.out _; (with_reducible repeat (first | refine aH_ ?_ _ | refine aK_ ?_ | refine aE_ ?_ _)); exact BK176.out) hb); have n1_ := mk0 (aJ_ (g := gb178) (o := .cells #[.int .i64 ((rd_T50 l0_2 x9_1).f0), .int .i64 ((rd_T50 l0_2 x9_1).f1), .slice A177_2 ((rd_T50 l0_2 x9_1).f2).length c177_2] 50 (0, 0)) (by (with_reducible repeat (first | refine aH_ ?_ _ | refine aK_ ?_ | refine aE_ ?_ _)); refine blk_put (cs := #[.int .i64 ((rd_T50 l0_2 x9_1).f0), .int .i64 ((rd_T50 l0_2 x9_1).f1), .slice none 0 0]) ?_ 2 _ rfl; (with_reducible repeat (first | refine aH_ ?_ _ | refine aK_ ?_ | refine aE_ ?_ _)); refine blk_put (cs := #[.int .i64 ((rd_T50 l0_2 x9_1).f0), .int .i64 0, .slice none 0 0]) ?_ 1 _ rfl; (with_reducible repeat (first | refine aH_ ?_ _ | refine aK_ ?_ | refine aE_ ?_ _)); refine blk_put (cs := #[.int .i64 0, .int .i64 0, .slice none 0 0]) ?_ 0 _ rfl; (with_reducible repeat (first | refine aH_ ?_ _ | refine aK_ ?_ | refine aE_ ?_ _)); exact BK178.out) hb); have n2_ := mk0 (aP_ (by repeat (first | (with_reducible first | exact HB.out | apply aA_ | apply aB_ | apply aD_ | refine aG_ ?_ GE176.out | refine aG_ ?_ GE178.out) | exact HB.out)) hb); clear BK176; clear BK178; clear HB; have BK176 := n0_; have BK178 := n1_; have HB := n2_; clear n0_ n1_ n2_; (try clear hb); (try clear hb2); (try clear hk); (try clear hi)))
      go_roundg k1
      case measure => have := HK1.out; omega
      case rel => exact ⟨(ji8), (wrap64 (x9_1 + 1)), (by first | rfl | (simp; done) | (simp only [← hji8] <;> (first | rfl | simp)) | (simp [*]; done)), (by first | rfl | (simp; done) | (simp [*]; done)), H', ⟨by have := HK1.out; omega⟩, ⟨by (with_reducible repeat (first | refine aH_ ?_ _ | refine aK_ ?_ | refine aE_ ?_ _)); exact BK176.out⟩, ⟨by repeat (first | (with_reducible first | exact HB.out | apply aA_ | apply aB_ | apply aD_ | refine aG_ ?_ GE176.out | refine aG_ ?_ GE178.out) | exact HB.out)⟩⟩
     ·rw [if_neg c6] at H
      exact absurd H (by simp)
    ·rw [if_neg c5] at H
     exact absurd H (by simp)
   ·rw [if_neg c4] at H
    have c4b0 : decide (x9_1 < (l0_2.length : Int)) = false := l3_ c4
    clear c4
    obtain rfl := l13_ H
    go_wp2
    go_ret
    exact ⟨by first | rfl | (simp [aR_, aQ_] <;> rfl) | (simp [*, aR_, aQ_] <;> rfl), by repeat (first | (with_reducible first | exact HB.out | apply aA_ | apply aB_ | apply aD_ | refine aG_ ?_ GE176.out) | exact HB.out)⟩
mutual
def virgationref02_Equal.j0 : Nat → Bool → Int → Int → List (S50) → Int → Int → List (S50) → Option (Bool)
 | 0, _, _, _, _, _, _, _ => none
 | k + 1, x26, x181000, x181001, x181002, x182000, x182001, x182002 => if x26 = true then (some false) else (virgationref02_Equal.l0 k (x181002.length : Int) 0 x181000 x181001 x181002 x182000 x182001 x182002)
def virgationref02_Equal.l0 : Nat → Int → Int → Int → Int → List (S50) → Int → Int → List (S50) → Option (Bool)
 | 0, _, _, _, _, _, _, _, _ => none
 | k + 1, x29, x30, x181000, x181001, x181002, x182000, x182001, x182002 => if x30 < x29 then (if 0 ≤ x30 then (if x30 < (x181002.length : Int) then (if x30 < (x182002.length : Int) then ((virgationref02_Equal.f k ((rd_T50 x181002 x30).f0) ((rd_T50 x181002 x30).f1) ((rd_T50 x181002 x30).f2) ((rd_T50 x182002 x30).f0) ((rd_T50 x182002 x30).f1) ((rd_T50 x182002 x30).f2)).bind fun t184 => (if t184 = true then (virgationref02_Equal.l0 k x29 (wrap64 (x30 + 1)) x181000 x181001 x181002 x182000 x182001 x182002) else (some false))) else (none)) else (none)) else (none)) else (some true)
def virgationref02_Equal.f : Nat → Int → Int → List (S50) → Int → Int → List (S50) → Option (Bool)
 | 0, _, _, _, _, _, _ => none
 | k + 1, a0_0, a0_1, l0_2, a1_0, a1_1, l1_2 => if a0_0 = a1_0 then (if a0_1 = a1_1 then (virgationref02_Equal.j0 k ((l0_2.length : Int) != (l1_2.length : Int)) a0_0 a0_1 l0_2 a1_0 a1_1 l1_2) else (virgationref02_Equal.j0 k true a0_0 a0_1 l0_2 a1_0 a1_1 l1_2)) else (virgationref02_Equal.j0 k true a0_0 a0_1 l0_2 a1_0 a1_1 l1_2)
end
def virgationref02_Equal.T6 : Bool × List (List Nat × List Nat) := (true, [([], []), ([0], [0]), ([], []), ([1, 2], [1, 2]), ([3], [3]), ([], []), ([5], [5]), ([], []), ([6, 7], [6, 7]), ([8], [8]), ([4, 9], [4, 9]), ([10], [10])])
def virgationref02_Equal.B6 : List Nat := [0, 1, 0, 7, 15, 0, 32, 0, 224, 480, 1023, 2047]
theorem virgationref02_Equal.tab6 : rtab .any (opsOf Tryz.f87 6) = virgationref02_Equal.T6 := by kernel_rfl
theorem virgationref02_Equal.bits6 : waitsOk virgationref02_Equal.T6.2 virgationref02_Equal.B6 = true := by kernel_rfl
set_option maxHeartbeats 8000000 in
set_option maxRecDepth 100000 in
theorem virgationref02_Equal.calls (k : Nat) : ∀ (a0_0 : Int) (a0_1 : Int) (A0_2 : Option Addr) (c0_2 : Nat) (l0_2 : List (S50)) (a1_0 : Int) (a1_1 : Int) (A1_2 : Option Addr) (c1_2 : Nat) (l1_2 : List (S50)) (r : Bool) (w : World) (hr0_2 : Kd.C k50 w A0_2 l0_2.length l0_2) (hc0_2 : l0_2.length ≤ c0_2) (hr1_2 : Kd.C k50 w A1_2 l1_2.length l1_2) (hc1_2 : l1_2.length ≤ c1_2) (h : virgationref02_Equal.f k a0_0 a0_1 l0_2 a1_0 a1_1 l1_2 = some r),
  Calls Tryz.prog 87 #[.agg #[.int .i64 a0_0, .int .i64 a0_1, .slice A0_2 l0_2.length c0_2], .agg #[.int .i64 a1_0, .int .i64 a1_1, .slice A1_2 l1_2.length c1_2]] w fun e w' => e = .returned (.bool r) ∧ Below w.heap.size w w' := by
 induction k using Nat.strongRecOn with
 | _ k ih =>
 intro a0_0 a0_1 A0_2 c0_2 l0_2 a1_0 a1_1 A1_2 c1_2 l1_2 r w hr0_2 hc0_2 hr1_2 hc1_2 h
 cases k with
 | zero => exact absurd h (by simp [virgationref02_Equal.f])
 | succ k =>
 simp only [virgationref02_Equal.f] at h
 have hu50 := Tryz.underlying50
 have HR0_2 := mk0 hr0_2
 have HC0_2 := mk0 hc0_2
 clear hr0_2 hc0_2
 have HR1_2 := mk0 hr1_2
 have HC1_2 := mk0 hc1_2
 clear hr1_2 hc1_2
 have HB := mk0 (Below.refl w.heap.size w)
 have H : (if a0_0 = a1_0 then (if a0_1 = a1_1 then (virgationref02_Equal.j0 k ((l0_2.length : Int) != (l1_2.length : Int)) a0_0 a0_1 l0_2 a1_0 a1_1 l1_2) else (virgationref02_Equal.j0 k true a0_0 a0_1 l0_2 a1_0 a1_1 l1_2)) else (virgationref02_Equal.j0 k true a0_0 a0_1 l0_2 a1_0 a1_1 l1_2)) = some r := h
 clear h
 have HC3 := mk0 H
 clear H
 go_enter Tryz.func87, Tryz.ntmps87
 go_upto_region 1 with (first | ((with_reducible refine gate_dst (N := 2) rfl ?_); (try (refine gate_guard (by rfl) ?_; dsimp only)); refine box_event ?hg (N := 2) ?hd (cs := #[.int .i64 a0_0, .int .i64 a0_1, .slice A0_2 l0_2.length c0_2]) (t := 50) ?hr ?_; (case hd => rfl); (case hg => rfl); (case hr => first | (go_simp; done) | (go_simp; rfl)); intro gb180 hg w4 hbox hb; have n0_ := mk0 (aP_ (by repeat (first | (with_reducible first | exact HB.out | apply aA_ | apply aB_ | apply aD_) | exact HB.out)) hb); have n1_ := mk0 (hbox); have n2_ := mk0 ((by rw [hg]; exact (aM_ (by repeat (first | (with_reducible first | exact HB.out | apply aA_ | apply aB_ | apply aD_) | exact HB.out))) : w.heap.size ≤ gb180)); have n3_ := mk0 ((by rw [hg]; exact (aM_ (by repeat (first | (with_reducible first | exact HB.out | apply aA_ | apply aB_ | apply aD_) | exact HB.out))) : w.heap.size ≤ gb180)); clear HB; have HB := n0_; have BK180 := n1_; have GW180 := n2_; have GE180 := n3_; clear n0_ n1_ n2_ n3_; clear hb hbox hg) | ((with_reducible refine gate_dst (N := 3) rfl ?_); (try (refine gate_guard (by rfl) ?_; dsimp only)); refine box_event ?hg (N := 3) ?hd (cs := #[.int .i64 a1_0, .int .i64 a1_1, .slice A1_2 l1_2.length c1_2]) (t := 50) ?hr ?_; (case hd => rfl); (case hg => rfl); (case hr => first | (go_simp; done) | (go_simp; rfl)); intro gb181 hg w5 hbox hb; have n0_ := mk0 (aJ_ (g := gb180) (o := .cells #[.int .i64 a0_0, .int .i64 a0_1, .slice A0_2 l0_2.length c0_2] 50 (0, 0)) (by (with_reducible repeat (first | refine aH_ ?_ _ | refine aK_ ?_ | refine aE_ ?_ _)); exact BK180.out) hb); have n1_ := mk0 (aP_ (by repeat (first | (with_reducible first | exact HB.out | apply aA_ | apply aB_ | apply aD_ | refine aG_ ?_ GE180.out) | exact HB.out)) hb); have n2_ := mk0 (hbox); have n3_ := mk0 ((by rw [hg]; exact (aM_ (by repeat (first | (with_reducible first | exact HB.out | apply aA_ | apply aB_ | apply aD_ | refine aG_ ?_ GE180.out) | exact HB.out))) : w.heap.size ≤ gb181)); have n4_ := mk0 ((by rw [hg]; exact (aM_ (by repeat (first | (with_reducible first | exact HB.out | apply aA_ | apply aB_ | apply aD_ | refine aG_ ?_ GE180.out) | exact HB.out))) : w.heap.size ≤ gb181)); have n5_ := mk0 ((by rw [hg]; exact Nat.ne_of_lt (blk_lt (g := gb180) (o := .cells #[.int .i64 a0_0, .int .i64 a0_1, .slice A0_2 l0_2.length c0_2] 50 (0, 0)) (by (with_reducible repeat (first | refine aH_ ?_ _ | refine aK_ ?_ | refine aE_ ?_ _)); exact BK180.out)) : gb180 ≠ gb181)); have n6_ := mk0 ((by rw [hg]; exact Nat.ne_of_gt (blk_lt (g := gb180) (o := .cells #[.int .i64 a0_0, .int .i64 a0_1, .slice A0_2 l0_2.length c0_2] 50 (0, 0)) (by (with_reducible repeat (first | refine aH_ ?_ _ | refine aK_ ?_ | refine aE_ ?_ _)); exact BK180.out)) : gb181 ≠ gb180)); clear BK180; clear HB; have BK180 := n0_; have HB := n1_; have BK181 := n2_; have GW181 := n3_; have GE181 := n4_; have NB180_181 := n5_; have NB181_180 := n6_; clear n0_ n1_ n2_ n3_ n4_ n5_ n6_; clear hb hbox hg))
 (try simp only [Act.put, l4_, l5_, l6_])
 go_cut [26] (fun v26 wc => ∃ (kq : Nat) (x26_2 : Bool), v26 = .bool x26_2 ∧ Aside0 (virgationref02_Equal.j0 kq x26_2 a0_0 a0_1 l0_2 a1_0 a1_1 l1_2 = some r) ∧ Aside0 (kq ≤ k) ∧ Aside0 (wc.heap[gb180]? = some (.cells #[.int .i64 a0_0, .int .i64 a0_1, (.slice A0_2 l0_2.length c0_2)] 50 (0, 0))) ∧ Aside0 (wc.heap[gb181]? = some (.cells #[.int .i64 a1_0, .int .i64 a1_1, (.slice A1_2 l1_2.length c1_2)] 50 (0, 0))) ∧ Aside0 (Below w.heap.size w wc))
 case first =>
  have H := HC3.out
  clear HC3
  by_cases c6 : a0_0 = a1_0
  ·rw [if_pos c6] at H
   have c6b0 : (a0_0 == a1_0) = true := beq_iff_eq.mpr c6
   have c6b1 : (a0_0 != a1_0) = false := bne_eq_false_iff_eq.mpr c6
   clear c6
   (first | rw [c6b0] | (simp only [i64_w, i32_w]; rw [c6b0]) | skip)
   by_cases c7 : a0_1 = a1_1
   ·rw [if_pos c7] at H
    have c7b0 : (a0_1 == a1_1) = true := beq_iff_eq.mpr c7
    have c7b1 : (a0_1 != a1_1) = false := bne_eq_false_iff_eq.mpr c7
    clear c7
    have H' := mk0 H
    clear H
    have hnb8 := NB180_181.out
    have hnc8 := NB181_180.out
    have hcz9_0 : w5.cell? ⟨gb180, 0, none⟩ = some (.int .i64 a0_0) := (aC_ BK180.out 0).trans rfl
    have hcz9_1 : w5.cell? ⟨gb180, 1, none⟩ = some (.int .i64 a0_1) := (aC_ BK180.out 1).trans rfl
    have hcz9_2 : w5.cell? ⟨gb180, 2, none⟩ = some (.slice A0_2 l0_2.length c0_2) := (aC_ BK180.out 2).trans rfl
    have hfz9_0 := aF_ BK180.out 0
    have hfz9_1 := aF_ BK180.out 1
    have hfz9_2 := aF_ BK180.out 2
    have hcz10_0 : w5.cell? ⟨gb181, 0, none⟩ = some (.int .i64 a1_0) := (aC_ BK181.out 0).trans rfl
    have hcz10_1 : w5.cell? ⟨gb181, 1, none⟩ = some (.int .i64 a1_1) := (aC_ BK181.out 1).trans rfl
    have hcz10_2 : w5.cell? ⟨gb181, 2, none⟩ = some (.slice A1_2 l1_2.length c1_2) := (aC_ BK181.out 2).trans rfl
    have hfz10_0 := aF_ BK181.out 0
    have hfz10_1 := aF_ BK181.out 1
    have hfz10_2 := aF_ BK181.out 2
    go_wp2
    go_meet
    case rel => exact ⟨_, (((l0_2.length : Int) != (l1_2.length : Int))), (by first | rfl | (simp; done) | (simp [*]; done)), H', ⟨by first | omega | exact Nat.le_refl _⟩, ⟨by (with_reducible repeat (first | refine aH_ ?_ _ | refine aK_ ?_ | refine aE_ ?_ _)); exact BK180.out⟩, ⟨by (with_reducible repeat (first | refine aH_ ?_ _ | refine aK_ ?_ | refine aE_ ?_ _)); exact BK181.out⟩, ⟨by repeat (first | (with_reducible first | exact HB.out | apply aA_ | apply aB_ | apply aD_ | refine aG_ ?_ GE180.out | refine aG_ ?_ GE181.out) | exact HB.out)⟩⟩
   ·rw [if_neg c7] at H
    have c7b0 : (a0_1 == a1_1) = false := beq_eq_false_iff_ne.mpr c7
    have c7b1 : (a0_1 != a1_1) = true := bne_iff_ne.mpr c7
    have H' := mk0 H
    clear H
    have hnb11 := NB180_181.out
    have hnc11 := NB181_180.out
    have hcz12_0 : w5.cell? ⟨gb180, 0, none⟩ = some (.int .i64 a0_0) := (aC_ BK180.out 0).trans rfl
    have hcz12_1 : w5.cell? ⟨gb180, 1, none⟩ = some (.int .i64 a0_1) := (aC_ BK180.out 1).trans rfl
    have hcz12_2 : w5.cell? ⟨gb180, 2, none⟩ = some (.slice A0_2 l0_2.length c0_2) := (aC_ BK180.out 2).trans rfl
    have hfz12_0 := aF_ BK180.out 0
    have hfz12_1 := aF_ BK180.out 1
    have hfz12_2 := aF_ BK180.out 2
    have hcz13_0 : w5.cell? ⟨gb181, 0, none⟩ = some (.int .i64 a1_0) := (aC_ BK181.out 0).trans rfl
    have hcz13_1 : w5.cell? ⟨gb181, 1, none⟩ = some (.int .i64 a1_1) := (aC_ BK181.out 1).trans rfl
    have hcz13_2 : w5.cell? ⟨gb181, 2, none⟩ = some (.slice A1_2 l1_2.length c1_2) := (aC_ BK181.out 2).trans rfl
    have hfz13_0 := aF_ BK181.out 0
    have hfz13_1 := aF_ BK181.out 1
    have hfz13_2 := aF_ BK181.out 2
    go_wp2
    go_meet
    case rel => exact ⟨_, (true), (by first | rfl | (simp; done) | (simp [*]; done)), H', ⟨by first | omega | exact Nat.le_refl _⟩, ⟨by (with_reducible repeat (first | refine aH_ ?_ _ | refine aK_ ?_ | refine aE_ ?_ _)); exact BK180.out⟩, ⟨by (with_reducible repeat (first | refine aH_ ?_ _ | refine aK_ ?_ | refine aE_ ?_ _)); exact BK181.out⟩, ⟨by repeat (first | (with_reducible first | exact HB.out | apply aA_ | apply aB_ | apply aD_ | refine aG_ ?_ GE180.out | refine aG_ ?_ GE181.out) | exact HB.out)⟩⟩
  ·rw [if_neg c6] at H
   have c6b0 : (a0_0 == a1_0) = false := beq_eq_false_iff_ne.mpr c6
   have c6b1 : (a0_0 != a1_0) = true := bne_iff_ne.mpr c6
   (first | rw [c6b0] | (simp only [i64_w, i32_w]; rw [c6b0]) | skip)
   have H' := mk0 H
   clear H
   have hnb14 := NB180_181.out
   have hnc14 := NB181_180.out
   have hcz15_0 : w5.cell? ⟨gb180, 0, none⟩ = some (.int .i64 a0_0) := (aC_ BK180.out 0).trans rfl
   have hcz15_1 : w5.cell? ⟨gb180, 1, none⟩ = some (.int .i64 a0_1) := (aC_ BK180.out 1).trans rfl
   have hcz15_2 : w5.cell? ⟨gb180, 2, none⟩ = some (.slice A0_2 l0_2.length c0_2) := (aC_ BK180.out 2).trans rfl
   have hfz15_0 := aF_ BK180.out 0
   have hfz15_1 := aF_ BK180.out 1
   have hfz15_2 := aF_ BK180.out 2
   have hcz16_0 : w5.cell? ⟨gb181, 0, none⟩ = some (.int .i64 a1_0) := (aC_ BK181.out 0).trans rfl
   have hcz16_1 : w5.cell? ⟨gb181, 1, none⟩ = some (.int .i64 a1_1) := (aC_ BK181.out 1).trans rfl
   have hcz16_2 : w5.cell? ⟨gb181, 2, none⟩ = some (.slice A1_2 l1_2.length c1_2) := (aC_ BK181.out 2).trans rfl
   have hfz16_0 := aF_ BK181.out 0
   have hfz16_1 := aF_ BK181.out 1
   have hfz16_2 := aF_ BK181.out 2
   go_wp2
   go_meet
   case rel => exact ⟨_, (true), (by first | rfl | (simp; done) | (simp [*]; done)), H', ⟨by first | omega | exact Nat.le_refl _⟩, ⟨by (with_reducible repeat (first | refine aH_ ?_ _ | refine aK_ ?_ | refine aE_ ?_ _)); exact BK180.out⟩, ⟨by (with_reducible repeat (first | refine aH_ ?_ _ | refine aK_ ?_ | refine aE_ ?_ _)); exact BK181.out⟩, ⟨by repeat (first | (with_reducible first | exact HB.out | apply aA_ | apply aB_ | apply aD_ | refine aG_ ?_ GE180.out | refine aG_ ?_ GE181.out) | exact HB.out)⟩⟩
 case rest =>
  clear HC3
  try clear c1
  try clear p2
  try clear c6
  try clear c6b0
  try clear c6b1
  try clear c7
  try clear c7b0
  try clear c7b1
  try clear c8
  try clear c11
  try clear c14
  try clear hcz10_0
  try clear hcz10_1
  try clear hcz10_2
  try clear hcz12_0
  try clear hcz12_1
  try clear hcz12_2
  try clear hcz13_0
  try clear hcz13_1
  try clear hcz13_2
  try clear hcz15_0
  try clear hcz15_1
  try clear hcz15_2
  try clear hcz16_0
  try clear hcz16_1
  try clear hcz16_2
  try clear hcz9_0
  try clear hcz9_1
  try clear hcz9_2
  try clear hfz10_0
  try clear hfz10_1
  try clear hfz10_2
  try clear hfz12_0
  try clear hfz12_1
  try clear hfz12_2
  try clear hfz13_0
  try clear hfz13_1
  try clear hfz13_2
  try clear hfz15_0
  try clear hfz15_1
  try clear hfz15_2
  try clear hfz16_0
  try clear hfz16_1
  try clear hfz16_2
  try clear hfz9_0
  try clear hfz9_1
  try clear hfz9_2
  obtain ⟨kq, x26_2, rfl, HA, HJ2, BK180, BK181, HB⟩ := hcut
  cases kq with
  | zero => exact absurd HA.out (by simp [virgationref02_Equal.j0])
  | succ kj2 =>
   have H := HA.out
   clear HA
   simp only [virgationref02_Equal.j0] at H
   by_cases c17 : x26_2 = true
   ·subst c17
    have H1 : (some false) = some r := by rw [if_pos rfl] at H; exact H
    clear H
    have H := H1
    clear H1
    obtain rfl := l13_ H
    go_wp2
    go_ret
    exact ⟨by first | rfl | (simp [aR_, aQ_] <;> rfl) | (simp [*, aR_, aQ_] <;> rfl), by repeat (first | (with_reducible first | exact HB.out | apply aA_ | apply aB_ | apply aD_ | refine aG_ ?_ GE180.out | refine aG_ ?_ GE181.out) | exact HB.out)⟩
   ·replace c17 := Bool.eq_false_iff.mpr c17
    subst c17
    have H1 : (virgationref02_Equal.l0 kj2 (l0_2.length : Int) 0 a0_0 a0_1 l0_2 a1_0 a1_1 l1_2) = some r := by rw [if_neg (show ¬ (false = true) by decide)] at H; exact H
    clear H
    have H := H1
    clear H1
    have H' := mk0 H
    clear H
    have hnb18 := NB180_181.out
    have hnc18 := NB181_180.out
    have hcz19_0 : wc.cell? ⟨gb180, 0, none⟩ = some (.int .i64 a0_0) := (aC_ BK180.out 0).trans rfl
    have hcz19_1 : wc.cell? ⟨gb180, 1, none⟩ = some (.int .i64 a0_1) := (aC_ BK180.out 1).trans rfl
    have hcz19_2 : wc.cell? ⟨gb180, 2, none⟩ = some (.slice A0_2 l0_2.length c0_2) := (aC_ BK180.out 2).trans rfl
    have hfz19_0 := aF_ BK180.out 0
    have hfz19_1 := aF_ BK180.out 1
    have hfz19_2 := aF_ BK180.out 2
    go_wp2
    go_loopg [30] kj2 (fun kq v30 w' => ∃ (x30_2 : Int), v30 = .int .i64 x30_2 ∧ Aside0 (virgationref02_Equal.l0 kq (l0_2.length : Int) x30_2 a0_0 a0_1 l0_2 a1_0 a1_1 l1_2 = some r) ∧ Aside0 (kq ≤ kj2) ∧ Aside0 (w'.heap[gb180]? = some (.cells #[.int .i64 a0_0, .int .i64 a0_1, (.slice A0_2 l0_2.length c0_2)] 50 (0, 0))) ∧ Aside0 (w'.heap[gb181]? = some (.cells #[.int .i64 a1_0, .int .i64 a1_1, (.slice A1_2 l1_2.length c1_2)] 50 (0, 0))) ∧ Aside0 (Below w.heap.size w w'))
    case atStart => exact ⟨(0), (by first | rfl | (simp; done) | (simp [*]; done)), H', ⟨Nat.le_refl _⟩, ⟨by (with_reducible repeat (first | refine aH_ ?_ _ | refine aK_ ?_ | refine aE_ ?_ _)); exact BK180.out⟩, ⟨by (with_reducible repeat (first | refine aH_ ?_ _ | refine aK_ ?_ | refine aE_ ?_ _)); exact BK181.out⟩, ⟨by repeat (first | (with_reducible first | exact HB.out | apply aA_ | apply aB_ | apply aD_ | refine aG_ ?_ GE180.out | refine aG_ ?_ GE181.out) | exact HB.out)⟩⟩
    case round =>
     clear H'
     try clear c1
     try clear p2
     try clear c6
     try clear c6b0
     try clear c6b1
     try clear c7
     try clear c7b0
     try clear c7b1
     try clear c8
     try clear c11
     try clear c14
     try clear c17
     try clear c18
     try clear hcz10_0
     try clear hcz10_1
     try clear hcz10_2
     try clear hcz12_0
     try clear hcz12_1
     try clear hcz12_2
     try clear hcz13_0
     try clear hcz13_1
     try clear hcz13_2
     try clear hcz15_0
     try clear hcz15_1
     try clear hcz15_2
     try clear hcz16_0
     try clear hcz16_1
     try clear hcz16_2
     try clear hcz19_0
     try clear hcz19_1
     try clear hcz19_2
     try clear hcz9_0
     try clear hcz9_1
     try clear hcz9_2
     try clear hfz10_0
     try clear hfz10_1
     try clear hfz10_2
     try clear hfz12_0
     try clear hfz12_1
     try clear hfz12_2
     try clear hfz13_0
     try clear hfz13_1
     try clear hfz13_2
     try clear hfz15_0
     try clear hfz15_1
     try clear hfz15_2
     try clear hfz16_0
     try clear hfz16_1
     try clear hfz16_2
     try clear hfz19_0
     try clear hfz19_1
     try clear hfz19_2
     try clear hfz9_0
     try clear hfz9_1
     try clear hfz9_2
     try clear p2
     obtain ⟨x30_2, rfl, HA, HK2, BK180, BK181, HB⟩ := hrel
     cases gk with
     | zero => exact absurd HA.out (by simp [virgationref02_Equal.l0])
     | succ k2 =>
      have H := HA.out
      clear HA
      simp only [virgationref02_Equal.l0] at H
      by_cases c20 : x30_2 < (l0_2.length : Int)
      ·rw [if_pos c20] at H
       have c20b0 : decide (x30_2 < (l0_2.length : Int)) = true := l2_ c20
       clear c20
       by_cases c21 : 0 ≤ x30_2
       ·rw [if_pos c21] at H
        have c21b0 : decide (0 ≤ x30_2) = true := l2_ c21
        clear c21
        by_cases c22 : x30_2 < (l0_2.length : Int)
        ·rw [if_pos c22] at H
         have c22b0 : decide (x30_2 < (l0_2.length : Int)) = true := l2_ c22
         clear c22
         by_cases c23 : x30_2 < (l1_2.length : Int)
         ·rw [if_pos c23] at H
          have c23b0 : decide (x30_2 < (l1_2.length : Int)) = true := l2_ c23
          clear c23
          replace H := Option.bind_eq_some_iff.mp H
          obtain ⟨t184, A240, H⟩ := H
          replace H : (if t184 = true then (virgationref02_Equal.l0 k2 (l0_2.length : Int) (wrap64 (x30_2 + 1)) a0_0 a0_1 l0_2 a1_0 a1_1 l1_2) else (some false)) = some r := H
          have A24 := mk0 A240
          clear A240
          by_cases c25 : t184 = true
          ·subst c25
           have H1 : (virgationref02_Equal.l0 k2 (l0_2.length : Int) (wrap64 (x30_2 + 1)) a0_0 a0_1 l0_2 a1_0 a1_1 l1_2) = some r := by rw [if_pos rfl] at H; exact H
           clear H
           have H := H1
           clear H1
           have H' := mk0 H
           clear H
           try go_wp2
           have n0_ := mk0 (aK_ BK180.out)
           have n1_ := mk0 (aK_ BK181.out)
           have n2_ := mk0 (aD_ HB.out)
           clear BK180
           clear BK181
           clear HB
           have BK180 := n0_
           have BK181 := n1_
           have HB := n2_
           clear n0_ n1_ n2_
           have p182 : 0 ≤ (x30_2 : Int) := l0_ (by first | (with_reducible assumption) | assumption)
           have q182 : x30_2 < (l0_2.length : Int) := l0_ (by first | (with_reducible assumption) | assumption)
           obtain ⟨ad182, A182_2, c182_2, e182, hx182_0, hx182_1, hx182_2, hl182_2, hi182_2⟩ := at_T50 HR0_2.out x30_2 p182 q182
           have hw182_2 := hx182_2
           have hw182_1 := hx182_1
           have hw182_0 := hx182_0
           cases e182
           replace hx182_0 := (HB.out.cell (l1_ w _ hx182_0)).trans hx182_0
           replace hx182_1 := (HB.out.cell (l1_ w _ hx182_1)).trans hx182_1
           replace hx182_2 := (HB.out.cell (l1_ w _ hx182_2)).trans hx182_2
           have HR182_2 := mk0 hi182_2
           have HC182_2 := mk0 hl182_2
           clear hi182_2 hl182_2
           replace p182 := eq_true p182
           replace q182 := eq_true q182
           have p183 : 0 ≤ (x30_2 : Int) := l0_ (by first | (with_reducible assumption) | assumption)
           have q183 : x30_2 < (l1_2.length : Int) := l0_ (by first | (with_reducible assumption) | assumption)
           obtain ⟨ad183, A183_2, c183_2, e183, hx183_0, hx183_1, hx183_2, hl183_2, hi183_2⟩ := at_T50 HR1_2.out x30_2 p183 q183
           have hw183_2 := hx183_2
           have hw183_1 := hx183_1
           have hw183_0 := hx183_0
           cases e183
           replace hx183_0 := (HB.out.cell (l1_ w _ hx183_0)).trans hx183_0
           replace hx183_1 := (HB.out.cell (l1_ w _ hx183_1)).trans hx183_1
           replace hx183_2 := (HB.out.cell (l1_ w _ hx183_2)).trans hx183_2
           have HR183_2 := mk0 hi183_2
           have HC183_2 := mk0 hl183_2
           clear hi183_2 hl183_2
           replace p183 := eq_true p183
           replace q183 := eq_true q183
           refine start_ (n := 12) (S := fun w' => w'.cell? ⟨gb180, 0, none⟩ = some (.int .i64 a0_0) ∧ w'.cell? ⟨gb180, 1, none⟩ = some (.int .i64 a0_1) ∧ w'.cell? ⟨gb180, 2, none⟩ = some (.slice (some ad182) l0_2.length c0_2) ∧ w'.cell? ⟨gb181, 0, none⟩ = some (.int .i64 a1_0) ∧ w'.cell? ⟨gb181, 1, none⟩ = some (.int .i64 a1_1) ∧ w'.cell? ⟨gb181, 2, none⟩ = some (.slice (some ad183) l1_2.length c1_2) ∧ w'.cell? (ad182.add ((x30_2).toNat * 3)) = some (.int .i64 ((rd_T50 l0_2 x30_2).f0)) ∧ w'.cell? ⟨(ad182.add ((x30_2).toNat * 3)).block, (ad182.add ((x30_2).toNat * 3)).off + 1, none⟩ = some (.int .i64 ((rd_T50 l0_2 x30_2).f1)) ∧ w'.cell? ⟨(ad182.add ((x30_2).toNat * 3)).block, (ad182.add ((x30_2).toNat * 3)).off + 2, none⟩ = some (.slice A182_2 ((rd_T50 l0_2 x30_2).f2).length c182_2) ∧ w'.cell? (ad183.add ((x30_2).toNat * 3)) = some (.int .i64 ((rd_T50 l1_2 x30_2).f0)) ∧ w'.cell? ⟨(ad183.add ((x30_2).toNat * 3)).block, (ad183.add ((x30_2).toNat * 3)).off + 1, none⟩ = some (.int .i64 ((rd_T50 l1_2 x30_2).f1)) ∧ w'.cell? ⟨(ad183.add ((x30_2).toNat * 3)).block, (ad183.add ((x30_2).toNat * 3)).off + 2, none⟩ = some (.slice A183_2 ((rd_T50 l1_2 x30_2).f2).length c183_2)) (ds := []) #[false, false, false, false, false, false, false, false, false, false, false, false] (by kernel_rfl) rfl rfl ⟨(aC_ BK180.out 0).trans rfl, (aC_ BK180.out 1).trans rfl, (aC_ BK180.out 2).trans rfl, (aC_ BK181.out 0).trans rfl, (aC_ BK181.out 1).trans rfl, (aC_ BK181.out 2).trans rfl, ((HB.out.cell (l1_ w _ hw182_0)).trans hw182_0), ((HB.out.cell (l1_ w _ hw182_1)).trans hw182_1), ((HB.out.cell (l1_ w _ hw182_2)).trans hw182_2), ((HB.out.cell (l1_ w _ hw183_0)).trans hw183_0), ((HB.out.cell (l1_ w _ hw183_1)).trans hw183_1), ((HB.out.cell (l1_ w _ hw183_2)).trans hw183_2)⟩ (fun hHeld => ?_); refine with_tabW virgationref02_Equal.tab6 virgationref02_Equal.bits6 (fun HT_ HW_ => ?_)
           generalize wr.drew = w26 at BK180 BK181 HB HR182_2 HR183_2 hx182_0 hx182_1 hx182_2 hx183_0 hx183_1 hx183_2 hHeld ⊢
           refine pure_ (i := 0) (N := some 33) (v := ?_) (a' := ?_) #[true, false, false, false, false, false, false, false, false, false, false, false] rfl rfl (any_of HT_.out (by kernel_rfl)) (fun _ _ _ h => h) (Or.inl ⟨by rfl, ?_⟩) ?_ ?_
           rotate_left
           ·intro w'
            go_simp
            with_reducible rfl
           rotate_left
           ·simp only [Act.put, l4_, l5_, l6_, i64_w, i32_w]
            rfl
           refine pure_ (i := 2) (N := some 35) (v := ?_) (a' := ?_) #[true, false, true, false, false, false, false, false, false, false, false, false] rfl rfl (any_of HT_.out (by kernel_rfl)) (fun _ _ _ h => h) (Or.inl ⟨by rfl, ?_⟩) ?_ ?_
           rotate_left
           ·intro w'
            go_simp
            with_reducible rfl
           rotate_left
           ·simp only [Act.put, l4_, l5_, l6_, i64_w, i32_w]
            rfl
           refine pure_ (i := 5) (N := some 38) (v := ?_) (a' := ?_) #[true, false, true, false, false, true, false, false, false, false, false, false] rfl rfl (any_of HT_.out (by kernel_rfl)) (fun _ _ _ h => h) (Or.inl ⟨by rfl, ?_⟩) ?_ ?_
           rotate_left
           ·intro w'
            go_simp
            with_reducible rfl
           rotate_left
           ·simp only [Act.put, l4_, l5_, l6_, i64_w, i32_w]
            rfl
           refine pure_ (i := 7) (N := some 40) (v := ?_) (a' := ?_) #[true, false, true, false, false, true, false, true, false, false, false, false] rfl rfl (any_of HT_.out (by kernel_rfl)) (fun _ _ _ h => h) (Or.inl ⟨by rfl, ?_⟩) ?_ ?_
           rotate_left
           ·intro w'
            go_simp
            with_reducible rfl
           rotate_left
           ·simp only [Act.put, l4_, l5_, l6_, i64_w, i32_w]
            rfl
           refine take_ (i := 1) (N := some 34) (v := ?_) (a' := ?_) #[true, true, true, false, false, true, false, true, false, false, false, false] rfl rfl (take_ofW HT_.out HW_.out (by kernel_rfl)) (fun _ _ _ h => h) (Or.inl ⟨by rfl, ?_⟩) hHeld ?_ ?_
           rotate_left
           ·rintro w' ⟨s0, s1, s2, s3, s4, s5, s6, s7, s8, s9, s10, s11⟩
            go_simp
            with_reducible rfl
           rotate_left
           ·simp only [Act.put, l4_, l5_, l6_, i64_w, i32_w]
            rfl
           refine pure_ (i := 3) (N := some 36) (v := ?_) (a' := ?_) #[true, true, true, true, false, true, false, true, false, false, false, false] rfl rfl (any_of HT_.out (by kernel_rfl)) (fun _ _ _ h => h) (Or.inl ⟨by rfl, ?_⟩) ?_ ?_
           rotate_left
           ·intro w'
            go_simp
            with_reducible rfl
           rotate_left
           ·simp only [Act.put, l4_, l5_, l6_, i64_w, i32_w]
            rfl
           refine take_ (i := 4) (N := some 37) (v := ?_) (a' := ?_) #[true, true, true, true, true, true, false, true, false, false, false, false] rfl rfl (take_ofW HT_.out HW_.out (by kernel_rfl)) (fun _ _ _ h => h) (Or.inl ⟨by rfl, ?_⟩) hHeld ?_ ?_
           rotate_left
           ·rintro w' ⟨s0, s1, s2, s3, s4, s5, s6, s7, s8, s9, s10, s11⟩
            go_simp
            with_reducible rfl
           rotate_left
           ·simp only [Act.put, l4_, l5_, l6_, i64_w, i32_w]
            rfl
           refine take_ (i := 6) (N := some 39) (v := ?_) (a' := ?_) #[true, true, true, true, true, true, true, true, false, false, false, false] rfl rfl (take_ofW HT_.out HW_.out (by kernel_rfl)) (fun _ _ _ h => h) (Or.inl ⟨by rfl, ?_⟩) hHeld ?_ ?_
           rotate_left
           ·rintro w' ⟨s0, s1, s2, s3, s4, s5, s6, s7, s8, s9, s10, s11⟩
            go_simp
            with_reducible rfl
           rotate_left
           ·simp only [Act.put, l4_, l5_, l6_, i64_w, i32_w]
            rfl
           refine pure_ (i := 8) (N := some 41) (v := ?_) (a' := ?_) #[true, true, true, true, true, true, true, true, true, false, false, false] rfl rfl (any_of HT_.out (by kernel_rfl)) (fun _ _ _ h => h) (Or.inl ⟨by rfl, ?_⟩) ?_ ?_
           rotate_left
           ·intro w'
            go_simp
            with_reducible rfl
           rotate_left
           ·simp only [Act.put, l4_, l5_, l6_, i64_w, i32_w]
            rfl
           refine take_ (i := 9) (N := some 42) (v := ?_) (a' := ?_) #[true, true, true, true, true, true, true, true, true, true, false, false] rfl rfl (take_ofW HT_.out HW_.out (by kernel_rfl)) (fun _ _ _ h => h) (Or.inl ⟨by rfl, ?_⟩) hHeld ?_ ?_
           rotate_left
           ·rintro w' ⟨s0, s1, s2, s3, s4, s5, s6, s7, s8, s9, s10, s11⟩
            go_simp
            with_reducible rfl
           rotate_left
           ·simp only [Act.put, l4_, l5_, l6_, i64_w, i32_w]
            rfl
           refine one_ (i := 10) (N := some 43) #[true, true, true, true, true, true, true, true, true, true, true, false] rfl rfl (one_of HT_.out (by kernel_rfl)) (by decide) (fun K hK => ?_)
           refine goes_ Tryz.func87 (by kernel_rfl) rfl #[.agg #[.int .i64 ((rd_T50 l0_2 x30_2).f0), .int .i64 ((rd_T50 l0_2 x30_2).f1), .slice A182_2 ((rd_T50 l0_2 x30_2).f2).length c182_2], .agg #[.int .i64 ((rd_T50 l1_2 x30_2).f0), .int .i64 ((rd_T50 l1_2 x30_2).f1), .slice A183_2 ((rd_T50 l1_2 x30_2).f2).length c183_2]] (by rfl) rfl rfl (by (try simp only [List.map_toArray, List.map_cons, List.map_nil]); first | done | rfl | (simp only [l9_, List.length_take]; rfl)) ?_
           with_reducible refine (ih k2 (by have := HJ2.out; have := HK2.out; omega) ((rd_T50 l0_2 x30_2).f0) ((rd_T50 l0_2 x30_2).f1) _ _ ((rd_T50 l0_2 x30_2).f2) ((rd_T50 l1_2 x30_2).f0) ((rd_T50 l1_2 x30_2).f1) _ _ ((rd_T50 l1_2 x30_2).f2) true _ ?side1 ?side2 ?side3 ?side4 A24.out).mono ?_
           (case side1 => repeat (first | exact (Kd.C_below HR182_2.out HB.out) | (with_reducible refine Kd.C_alloc ?_ _) | (with_reducible refine Kd.C_drewN ?_ _) | (with_reducible refine Kd.C_drew ?_)))
           (case side2 => exact HC182_2.out)
           (case side3 => repeat (first | exact (Kd.C_below HR183_2.out HB.out) | (with_reducible refine Kd.C_alloc ?_ _) | (with_reducible refine Kd.C_drewN ?_ _) | (with_reducible refine Kd.C_drew ?_)))
           (case side4 => exact HC183_2.out)
           rintro e w27 ⟨rfl, hb⟩
           refine ⟨_, rfl, ?_⟩
           have n0_ := mk0 (aJ_ (g := gb180) (o := .cells #[.int .i64 a0_0, .int .i64 a0_1, .slice (some ad182) l0_2.length c0_2] 50 (0, 0)) (by (with_reducible repeat (first | refine aH_ ?_ _ | refine aK_ ?_ | refine aE_ ?_ _)); exact BK180.out) hb)
           have n1_ := mk0 (aJ_ (g := gb181) (o := .cells #[.int .i64 a1_0, .int .i64 a1_1, .slice (some ad183) l1_2.length c1_2] 50 (0, 0)) (by (with_reducible repeat (first | refine aH_ ?_ _ | refine aK_ ?_ | refine aE_ ?_ _)); exact BK181.out) hb)
           have n2_ := mk0 (aP_ (by repeat (first | (with_reducible first | exact HB.out | apply aA_ | apply aB_ | apply aD_ | refine aG_ ?_ GE180.out | refine aG_ ?_ GE181.out) | exact HB.out)) hb)
           clear BK180
           clear BK181
           clear HB
           have BK180 := n0_
           have BK181 := n1_
           have HB := n2_
           clear n0_ n1_ n2_
           (try clear hb)
           (try clear hb2)
           (try clear hk)
           (try clear hi)
           refine hK.out _ _ ⟨(aC_ BK180.out 0).trans rfl, (aC_ BK180.out 1).trans rfl, (aC_ BK180.out 2).trans rfl, (aC_ BK181.out 0).trans rfl, (aC_ BK181.out 1).trans rfl, (aC_ BK181.out 2).trans rfl, ((HB.out.cell (l1_ w _ hw182_0)).trans hw182_0), ((HB.out.cell (l1_ w _ hw182_1)).trans hw182_1), ((HB.out.cell (l1_ w _ hw182_2)).trans hw182_2), ((HB.out.cell (l1_ w _ hw183_0)).trans hw183_0), ((HB.out.cell (l1_ w _ hw183_1)).trans hw183_1), ((HB.out.cell (l1_ w _ hw183_2)).trans hw183_2)⟩ (fun hHeld => ?_)
           clear hK K
           refine norm_ (a' := ?_) ?_ ?_
           rotate_left
           ·show Act.put _ (some 43) _ = _
            simp only [Act.put, l4_, l5_, l6_, i64_w, i32_w]
            rfl
           refine pure_ (i := 11) (N := some 44) (v := ?_) (a' := ?_) #[true, true, true, true, true, true, true, true, true, true, true, true] rfl rfl (any_of HT_.out (by kernel_rfl)) (fun _ _ _ h => h) (Or.inl ⟨by rfl, ?_⟩) ?_ ?_
           rotate_left
           ·intro w'
            go_simp
            with_reducible rfl
           rotate_left
           ·simp only [Act.put, l4_, l5_, l6_, i64_w, i32_w]
            rfl
           refine done_ (done_of HT_.out (by kernel_rfl)) ?_
           try go_wp2
           go_roundg k2
           case measure => have := HJ2.out; have := HK2.out; omega
           case rel => exact ⟨(wrap64 (x30_2 + 1)), (by first | rfl | (simp; done) | (simp [*]; done)), H', ⟨by have := HJ2.out; have := HK2.out; omega⟩, ⟨by (with_reducible repeat (first | refine aH_ ?_ _ | refine aK_ ?_ | refine aE_ ?_ _)); exact BK180.out⟩, ⟨by (with_reducible repeat (first | refine aH_ ?_ _ | refine aK_ ?_ | refine aE_ ?_ _)); exact BK181.out⟩, ⟨by repeat (first | (with_reducible first | exact HB.out | apply aA_ | apply aB_ | apply aD_ | refine aG_ ?_ GE180.out | refine aG_ ?_ GE181.out) | exact HB.out)⟩⟩
          ·replace c25 := Bool.eq_false_iff.mpr c25
           subst c25
           have H1 : (some false) = some r := by rw [if_neg (show ¬ (false = true) by decide)] at H; exact H
           clear H
           have H := H1
           clear H1
           obtain rfl := l13_ H
           try go_wp2
           have n0_ := mk0 (aK_ BK180.out)
           have n1_ := mk0 (aK_ BK181.out)
           have n2_ := mk0 (aD_ HB.out)
           clear BK180
           clear BK181
           clear HB
           have BK180 := n0_
           have BK181 := n1_
           have HB := n2_
           clear n0_ n1_ n2_
           have p182 : 0 ≤ (x30_2 : Int) := l0_ (by first | (with_reducible assumption) | assumption)
           have q182 : x30_2 < (l0_2.length : Int) := l0_ (by first | (with_reducible assumption) | assumption)
           obtain ⟨ad182, A182_2, c182_2, e182, hx182_0, hx182_1, hx182_2, hl182_2, hi182_2⟩ := at_T50 HR0_2.out x30_2 p182 q182
           have hw182_2 := hx182_2
           have hw182_1 := hx182_1
           have hw182_0 := hx182_0
           cases e182
           replace hx182_0 := (HB.out.cell (l1_ w _ hx182_0)).trans hx182_0
           replace hx182_1 := (HB.out.cell (l1_ w _ hx182_1)).trans hx182_1
           replace hx182_2 := (HB.out.cell (l1_ w _ hx182_2)).trans hx182_2
           have HR182_2 := mk0 hi182_2
           have HC182_2 := mk0 hl182_2
           clear hi182_2 hl182_2
           replace p182 := eq_true p182
           replace q182 := eq_true q182
           have p183 : 0 ≤ (x30_2 : Int) := l0_ (by first | (with_reducible assumption) | assumption)
           have q183 : x30_2 < (l1_2.length : Int) := l0_ (by first | (with_reducible assumption) | assumption)
           obtain ⟨ad183, A183_2, c183_2, e183, hx183_0, hx183_1, hx183_2, hl183_2, hi183_2⟩ := at_T50 HR1_2.out x30_2 p183 q183
           have hw183_2 := hx183_2
           have hw183_1 := hx183_1
           have hw183_0 := hx183_0
           cases e183
           replace hx183_0 := (HB.out.cell (l1_ w _ hx183_0)).trans hx183_0
           replace hx183_1 := (HB.out.cell (l1_ w _ hx183_1)).trans hx183_1
           replace hx183_2 := (HB.out.cell (l1_ w _ hx183_2)).trans hx183_2
           have HR183_2 := mk0 hi183_2
           have HC183_2 := mk0 hl183_2
           clear hi183_2 hl183_2
           replace p183 := eq_true p183
           replace q183 := eq_true q183
           refine start_ (n := 12) (S := fun w' => w'.cell? ⟨gb180, 0, none⟩ = some (.int .i64 a0_0) ∧ w'.cell? ⟨gb180, 1, none⟩ = some (.int .i64 a0_1) ∧ w'.cell? ⟨gb180, 2, none⟩ = some (.slice (some ad182) l0_2.length c0_2) ∧ w'.cell? ⟨gb181, 0, none⟩ = some (.int .i64 a1_0) ∧ w'.cell? ⟨gb181, 1, none⟩ = some (.int .i64 a1_1) ∧ w'.cell? ⟨gb181, 2, none⟩ = some (.slice (some ad183) l1_2.length c1_2) ∧ w'.cell? (ad182.add ((x30_2).toNat * 3)) = some (.int .i64 ((rd_T50 l0_2 x30_2).f0)) ∧ w'.cell? ⟨(ad182.add ((x30_2).toNat * 3)).block, (ad182.add ((x30_2).toNat * 3)).off + 1, none⟩ = some (.int .i64 ((rd_T50 l0_2 x30_2).f1)) ∧ w'.cell? ⟨(ad182.add ((x30_2).toNat * 3)).block, (ad182.add ((x30_2).toNat * 3)).off + 2, none⟩ = some (.slice A182_2 ((rd_T50 l0_2 x30_2).f2).length c182_2) ∧ w'.cell? (ad183.add ((x30_2).toNat * 3)) = some (.int .i64 ((rd_T50 l1_2 x30_2).f0)) ∧ w'.cell? ⟨(ad183.add ((x30_2).toNat * 3)).block, (ad183.add ((x30_2).toNat * 3)).off + 1, none⟩ = some (.int .i64 ((rd_T50 l1_2 x30_2).f1)) ∧ w'.cell? ⟨(ad183.add ((x30_2).toNat * 3)).block, (ad183.add ((x30_2).toNat * 3)).off + 2, none⟩ = some (.slice A183_2 ((rd_T50 l1_2 x30_2).f2).length c183_2)) (ds := []) #[false, false, false, false, false, false, false, false, false, false, false, false] (by kernel_rfl) rfl rfl ⟨(aC_ BK180.out 0).trans rfl, (aC_ BK180.out 1).trans rfl, (aC_ BK180.out 2).trans rfl, (aC_ BK181.out 0).trans rfl, (aC_ BK181.out 1).trans rfl, (aC_ BK181.out 2).trans rfl, ((HB.out.cell (l1_ w _ hw182_0)).trans hw182_0), ((HB.out.cell (l1_ w _ hw182_1)).trans hw182_1), ((HB.out.cell (l1_ w _ hw182_2)).trans hw182_2), ((HB.out.cell (l1_ w _ hw183_0)).trans hw183_0), ((HB.out.cell (l1_ w _ hw183_1)).trans hw183_1), ((HB.out.cell (l1_ w _ hw183_2)).trans hw183_2)⟩ (fun hHeld => ?_); refine with_tabW virgationref02_Equal.tab6 virgationref02_Equal.bits6 (fun HT_ HW_ => ?_)
           generalize wr.drew = w28 at BK180 BK181 HB HR182_2 HR183_2 hx182_0 hx182_1 hx182_2 hx183_0 hx183_1 hx183_2 hHeld ⊢
           refine pure_ (i := 0) (N := some 33) (v := ?_) (a' := ?_) #[true, false, false, false, false, false, false, false, false, false, false, false] rfl rfl (any_of HT_.out (by kernel_rfl)) (fun _ _ _ h => h) (Or.inl ⟨by rfl, ?_⟩) ?_ ?_
           rotate_left
           ·intro w'
            go_simp
            with_reducible rfl
           rotate_left
           ·simp only [Act.put, l4_, l5_, l6_, i64_w, i32_w]
            rfl
           refine pure_ (i := 2) (N := some 35) (v := ?_) (a' := ?_) #[true, false, true, false, false, false, false, false, false, false, false, false] rfl rfl (any_of HT_.out (by kernel_rfl)) (fun _ _ _ h => h) (Or.inl ⟨by rfl, ?_⟩) ?_ ?_
           rotate_left
           ·intro w'
            go_simp
            with_reducible rfl
           rotate_left
           ·simp only [Act.put, l4_, l5_, l6_, i64_w, i32_w]
            rfl
           refine pure_ (i := 5) (N := some 38) (v := ?_) (a' := ?_) #[true, false, true, false, false, true, false, false, false, false, false, false] rfl rfl (any_of HT_.out (by kernel_rfl)) (fun _ _ _ h => h) (Or.inl ⟨by rfl, ?_⟩) ?_ ?_
           rotate_left
           ·intro w'
            go_simp
            with_reducible rfl
           rotate_left
           ·simp only [Act.put, l4_, l5_, l6_, i64_w, i32_w]
            rfl
           refine pure_ (i := 7) (N := some 40) (v := ?_) (a' := ?_) #[true, false, true, false, false, true, false, true, false, false, false, false] rfl rfl (any_of HT_.out (by kernel_rfl)) (fun _ _ _ h => h) (Or.inl ⟨by rfl, ?_⟩) ?_ ?_
           rotate_left
           ·intro w'
            go_simp
            with_reducible rfl
           rotate_left
           ·simp only [Act.put, l4_, l5_, l6_, i64_w, i32_w]
            rfl
           refine take_ (i := 1) (N := some 34) (v := ?_) (a' := ?_) #[true, true, true, false, false, true, false, true, false, false, false, false] rfl rfl (take_ofW HT_.out HW_.out (by kernel_rfl)) (fun _ _ _ h => h) (Or.inl ⟨by rfl, ?_⟩) hHeld ?_ ?_
           rotate_left
           ·rintro w' ⟨s0, s1, s2, s3, s4, s5, s6, s7, s8, s9, s10, s11⟩
            go_simp
            with_reducible rfl
           rotate_left
           ·simp only [Act.put, l4_, l5_, l6_, i64_w, i32_w]
            rfl
           refine pure_ (i := 3) (N := some 36) (v := ?_) (a' := ?_) #[true, true, true, true, false, true, false, true, false, false, false, false] rfl rfl (any_of HT_.out (by kernel_rfl)) (fun _ _ _ h => h) (Or.inl ⟨by rfl, ?_⟩) ?_ ?_
           rotate_left
           ·intro w'
            go_simp
            with_reducible rfl
           rotate_left
           ·simp only [Act.put, l4_, l5_, l6_, i64_w, i32_w]
            rfl
           refine take_ (i := 4) (N := some 37) (v := ?_) (a' := ?_) #[true, true, true, true, true, true, false, true, false, false, false, false] rfl rfl (take_ofW HT_.out HW_.out (by kernel_rfl)) (fun _ _ _ h => h) (Or.inl ⟨by rfl, ?_⟩) hHeld ?_ ?_
           rotate_left
           ·rintro w' ⟨s0, s1, s2, s3, s4, s5, s6, s7, s8, s9, s10, s11⟩
            go_simp
            with_reducible rfl
           rotate_left
           ·simp only [Act.put, l4_, l5_, l6_, i64_w, i32_w]
            rfl
           refine take_ (i := 6) (N := some 39) (v := ?_) (a' := ?_) #[true, true, true, true, true, true, true, true, false, false, false, false] rfl rfl (take_ofW HT_.out HW_.out (by kernel_rfl)) (fun _ _ _ h => h) (Or.inl ⟨by rfl, ?_⟩) hHeld ?_ ?_
           rotate_left
           ·rintro w' ⟨s0, s1, s2, s3, s4, s5, s6, s7, s8, s9, s10, s11⟩
            go_simp
            with_reducible rfl
           rotate_left
           ·simp only [Act.put, l4_, l5_, l6_, i64_w, i32_w]
            rfl
           refine pure_ (i := 8) (N := some 41) (v := ?_) (a' := ?_) #[true, true, true, true, true, true, true, true, true, false, false, false] rfl rfl (any_of HT_.out (by kernel_rfl)) (fun _ _ _ h => h) (Or.inl ⟨by rfl, ?_⟩) ?_ ?_
           rotate_left
           ·intro w'
            go_simp
            with_reducible rfl
           rotate_left
           ·simp only [Act.put, l4_, l5_, l6_, i64_w, i32_w]
            rfl
           refine take_ (i := 9) (N := some 42) (v := ?_) (a' := ?_) #[true, true, true, true, true, true, true, true, true, true, false, false] rfl rfl (take_ofW HT_.out HW_.out (by kernel_rfl)) (fun _ _ _ h => h) (Or.inl ⟨by rfl, ?_⟩) hHeld ?_ ?_
           rotate_left
           ·rintro w' ⟨s0, s1, s2, s3, s4, s5, s6, s7, s8, s9, s10, s11⟩
            go_simp
            with_reducible rfl
           rotate_left
           ·simp only [Act.put, l4_, l5_, l6_, i64_w, i32_w]
            rfl
           refine one_ (i := 10) (N := some 43) #[true, true, true, true, true, true, true, true, true, true, true, false] rfl rfl (one_of HT_.out (by kernel_rfl)) (by decide) (fun K hK => ?_)
           refine goes_ Tryz.func87 (by kernel_rfl) rfl #[.agg #[.int .i64 ((rd_T50 l0_2 x30_2).f0), .int .i64 ((rd_T50 l0_2 x30_2).f1), .slice A182_2 ((rd_T50 l0_2 x30_2).f2).length c182_2], .agg #[.int .i64 ((rd_T50 l1_2 x30_2).f0), .int .i64 ((rd_T50 l1_2 x30_2).f1), .slice A183_2 ((rd_T50 l1_2 x30_2).f2).length c183_2]] (by rfl) rfl rfl (by (try simp only [List.map_toArray, List.map_cons, List.map_nil]); first | done | rfl | (simp only [l9_, List.length_take]; rfl)) ?_
           with_reducible refine (ih k2 (by have := HJ2.out; have := HK2.out; omega) ((rd_T50 l0_2 x30_2).f0) ((rd_T50 l0_2 x30_2).f1) _ _ ((rd_T50 l0_2 x30_2).f2) ((rd_T50 l1_2 x30_2).f0) ((rd_T50 l1_2 x30_2).f1) _ _ ((rd_T50 l1_2 x30_2).f2) false _ ?side1 ?side2 ?side3 ?side4 A24.out).mono ?_
           (case side1 => repeat (first | exact (Kd.C_below HR182_2.out HB.out) | (with_reducible refine Kd.C_alloc ?_ _) | (with_reducible refine Kd.C_drewN ?_ _) | (with_reducible refine Kd.C_drew ?_)))
           (case side2 => exact HC182_2.out)
           (case side3 => repeat (first | exact (Kd.C_below HR183_2.out HB.out) | (with_reducible refine Kd.C_alloc ?_ _) | (with_reducible refine Kd.C_drewN ?_ _) | (with_reducible refine Kd.C_drew ?_)))
           (case side4 => exact HC183_2.out)
           rintro e w29 ⟨rfl, hb⟩
           refine ⟨_, rfl, ?_⟩
           have n0_ := mk0 (aJ_ (g := gb180) (o := .cells #[.int .i64 a0_0, .int .i64 a0_1, .slice (some ad182) l0_2.length c0_2] 50 (0, 0)) (by (with_reducible repeat (first | refine aH_ ?_ _ | refine aK_ ?_ | refine aE_ ?_ _)); exact BK180.out) hb)
           have n1_ := mk0 (aJ_ (g := gb181) (o := .cells #[.int .i64 a1_0, .int .i64 a1_1, .slice (some ad183) l1_2.length c1_2] 50 (0, 0)) (by (with_reducible repeat (first | refine aH_ ?_ _ | refine aK_ ?_ | refine aE_ ?_ _)); exact BK181.out) hb)
           have n2_ := mk0 (aP_ (by repeat (first | (with_reducible first | exact HB.out | apply aA_ | apply aB_ | apply aD_ | refine aG_ ?_ GE180.out | refine aG_ ?_ GE181.out) | exact HB.out)) hb)
           clear BK180
           clear BK181
           clear HB
           have BK180 := n0_
           have BK181 := n1_
           have HB := n2_
           clear n0_ n1_ n2_
           (try clear hb)
           (try clear hb2)
           (try clear hk)
           (try clear hi)
           refine hK.out _ _ ⟨(aC_ BK180.out 0).trans rfl, (aC_ BK180.out 1).trans rfl, (aC_ BK180.out 2).trans rfl, (aC_ BK181.out 0).trans rfl, (aC_ BK181.out 1).trans rfl, (aC_ BK181.out 2).trans rfl, ((HB.out.cell (l1_ w _ hw182_0)).trans hw182_0), ((HB.out.cell (l1_ w _ hw182_1)).trans hw182_1), ((HB.out.cell (l1_ w _ hw182_2)).trans hw182_2), ((HB.out.cell (l1_ w _ hw183_0)).trans hw183_0), ((HB.out.cell (l1_ w _ hw183_1)).trans hw183_1), ((HB.out.cell (l1_ w _ hw183_2)).trans hw183_2)⟩ (fun hHeld => ?_)
           clear hK K
           refine norm_ (a' := ?_) ?_ ?_
           rotate_left
           ·show Act.put _ (some 43) _ = _
            simp only [Act.put, l4_, l5_, l6_, i64_w, i32_w]
            rfl
           refine pure_ (i := 11) (N := some 44) (v := ?_) (a' := ?_) #[true, true, true, true, true, true, true, true, true, true, true, true] rfl rfl (any_of HT_.out (by kernel_rfl)) (fun _ _ _ h => h) (Or.inl ⟨by rfl, ?_⟩) ?_ ?_
           rotate_left
           ·intro w'
            go_simp
            with_reducible rfl
           rotate_left
           ·simp only [Act.put, l4_, l5_, l6_, i64_w, i32_w]
            rfl
           refine done_ (done_of HT_.out (by kernel_rfl)) ?_
           try go_wp2
           go_ret
           exact ⟨by first | rfl | (simp [aR_, aQ_] <;> rfl) | (simp [*, aR_, aQ_] <;> rfl), by repeat (first | (with_reducible first | exact HB.out | apply aA_ | apply aB_ | apply aD_ | refine aG_ ?_ GE180.out | refine aG_ ?_ GE181.out) | exact HB.out)⟩
         ·rw [if_neg c23] at H
          exact absurd H (by simp)
        ·rw [if_neg c22] at H
         exact absurd H (by simp)
       ·rw [if_neg c21] at H
        exact absurd H (by simp)
      ·rw [if_neg c20] at H
       have c20b0 : decide (x30_2 < (l0_2.length : Int)) = false := l3_ c20
       clear c20
       obtain rfl := l13_ H
       go_wp2
       go_ret
       exact ⟨by first | rfl | (simp [aR_, aQ_] <;> rfl) | (simp [*, aR_, aQ_] <;> rfl), by repeat (first | (with_reducible first | exact HB.out | apply aA_ | apply aB_ | apply aD_ | refine aG_ ?_ GE180.out | refine aG_ ?_ GE181.out) | exact HB.out)⟩
mutual
def virgationref01_Nodes.l0 : Nat → Int → Int → Int → List (S47) → Option (Int)
 | 0, _, _, _, _ => none
 | k + 1, x1, x5, x6, x186000 => if x6 < (x186000.length : Int) then (if x5 ≤ x1 then (if 0 ≤ x6 then ((virgationref01_Nodes.f k ((rd_T47 x186000 x6).f0) (wrap64 (x1 - x5))).bind fun t187 => (virgationref01_Nodes.l0 k x1 (wrap64 (x5 + t187)) (wrap64 (x6 + 1)) x186000)) else (none)) else (some x5)) else (some x5)
def virgationref01_Nodes.f : Nat → List (S47) → Int → Option (Int)
 | 0, _, _ => none
 | k + 1, l0_0, a1 => virgationref01_Nodes.l0 k a1 1 0 l0_0
end
set_option maxHeartbeats 8000000 in
set_option maxRecDepth 100000 in
theorem virgationref01_Nodes.calls (k : Nat) : ∀ (A0_0 : Option Addr) (c0_0 : Nat) (l0_0 : List (S47)) (a1 : Int) (r : Int) (w : World) (hr0_0 : Kd.C k47 w A0_0 l0_0.length l0_0) (hc0_0 : l0_0.length ≤ c0_0) (h : virgationref01_Nodes.f k l0_0 a1 = some r),
  Calls Tryz.prog 88 #[.agg #[.slice A0_0 l0_0.length c0_0], .int .i64 a1] w fun e w' => e = .returned (.int .i64 r) ∧ Below w.heap.size w w' := by
 induction k using Nat.strongRecOn with
 | _ k ih =>
 intro A0_0 c0_0 l0_0 a1 r w hr0_0 hc0_0 h
 cases k with
 | zero => exact absurd h (by simp [virgationref01_Nodes.f])
 | succ k =>
 simp only [virgationref01_Nodes.f] at h
 have hu47 := Tryz.underlying47
 have HR0_0 := mk0 hr0_0
 have HC0_0 := mk0 hc0_0
 clear hr0_0 hc0_0
 have HB := mk0 (Below.refl w.heap.size w)
 have H : (virgationref01_Nodes.l0 k a1 1 0 l0_0) = some r := h
 clear h
 have H' := mk0 H
 clear H
 go_enter Tryz.func88, Tryz.ntmps88
 go_wp2_with (first | ((with_reducible refine gate_dst (N := 2) rfl ?_); refine box_event ?hg (N := 2) ?hd (cs := #[.slice A0_0 l0_0.length c0_0]) (t := 47) ?hr ?_; (case hd => rfl); (case hg => rfl); (case hr => first | (go_simp; done) | (go_simp; rfl)); intro gb185 hg w3 hbox hb; have n0_ := mk0 (aP_ (by repeat (first | (with_reducible first | exact HB.out | apply aA_ | apply aB_ | apply aD_) | exact HB.out)) hb); have n1_ := mk0 (hbox); have n2_ := mk0 ((by rw [hg]; exact (aM_ (by repeat (first | (with_reducible first | exact HB.out | apply aA_ | apply aB_ | apply aD_) | exact HB.out))) : w.heap.size ≤ gb185)); have n3_ := mk0 ((by rw [hg]; exact (aM_ (by repeat (first | (with_reducible first | exact HB.out | apply aA_ | apply aB_ | apply aD_) | exact HB.out))) : w.heap.size ≤ gb185)); clear HB; have HB := n0_; have BK185 := n1_; have GW185 := n2_; have GE185 := n3_; clear n0_ n1_ n2_ n3_; clear hb hbox hg))
 go_loopg [5, 6] k (fun kq v5 v6 w' => ∃ (x5_1 : Int) (x6_1 : Int), v5 = .int .i64 x5_1 ∧ v6 = .int .i64 x6_1 ∧ Aside0 (virgationref01_Nodes.l0 kq a1 x5_1 x6_1 l0_0 = some r) ∧ Aside0 (kq ≤ k) ∧ Aside0 (w'.heap[gb185]? = some (.cells #[(.slice A0_0 l0_0.length c0_0)] 47 (0, 0))) ∧ Aside0 (Below w.heap.size w w'))
 case atStart => exact ⟨(1), (0), (by first | rfl | (simp; done) | (simp [*]; done)), (by first | rfl | (simp; done) | (simp [*]; done)), H', ⟨Nat.le_refl _⟩, ⟨by (with_reducible repeat (first | refine aH_ ?_ _ | refine aK_ ?_ | refine aE_ ?_ _)); exact BK185.out⟩, ⟨by repeat (first | (with_reducible first | exact HB.out | apply aA_ | apply aB_ | apply aD_ | refine aG_ ?_ GE185.out) | exact HB.out)⟩⟩
 case round =>
  clear H'
  try clear p2
  obtain ⟨x5_1, x6_1, rfl, rfl, HA, HK1, BK185, HB⟩ := hrel
  cases gk with
  | zero => exact absurd HA.out (by simp [virgationref01_Nodes.l0])
  | succ k1 =>
   have H := HA.out
   clear HA
   simp only [virgationref01_Nodes.l0] at H
   by_cases c4 : x6_1 < (l0_0.length : Int)
   ·rw [if_pos c4] at H
    have c4b0 : decide (x6_1 < (l0_0.length : Int)) = true := l2_ c4
    clear c4
    by_cases c5 : x5_1 ≤ a1
    ·rw [if_pos c5] at H
     have c5b0 : decide (x5_1 ≤ a1) = true := l2_ c5
     clear c5
     by_cases c6 : 0 ≤ x6_1
     ·rw [if_pos c6] at H
      have c6b0 : decide (0 ≤ x6_1) = true := l2_ c6
      clear c6
      replace H := Option.bind_eq_some_iff.mp H
      obtain ⟨t187, A70, H⟩ := H
      replace H : (virgationref01_Nodes.l0 k1 a1 (wrap64 (x5_1 + t187)) (wrap64 (x6_1 + 1)) l0_0) = some r := H
      have A7 := mk0 A70
      clear A70
      have H' := mk0 H
      clear H
      have hcz8_0 : wr.cell? ⟨gb185, 0, none⟩ = some (.slice A0_0 l0_0.length c0_0) := (aC_ BK185.out 0).trans rfl
      have hfz8_0 := aF_ BK185.out 0
      have p186 : 0 ≤ (x6_1 : Int) := l0_ (by first | (with_reducible assumption) | assumption)
      have q186 : x6_1 < (l0_0.length : Int) := l0_ (by first | (with_reducible assumption) | assumption)
      obtain ⟨ad186, A186_0, c186_0, e186, hx186_0, hl186_0, hi186_0⟩ := at_T47 HR0_0.out x6_1 p186 q186
      cases e186
      replace hx186_0 := (HB.out.cell (l1_ w _ hx186_0)).trans hx186_0
      have HR186_0 := mk0 hi186_0
      have HC186_0 := mk0 hl186_0
      clear hi186_0 hl186_0
      replace p186 := eq_true p186
      replace q186 := eq_true q186
      go_wp2_with (first | ((with_reducible refine gate_callee (f := 88) rfl ?_); refine goesL_ (some 28) rfl rfl Tryz.func88 (by kernel_rfl) rfl #[.agg #[.slice A186_0 ((rd_T47 l0_0 x6_1).f0).length c186_0], .int .i64 (wrap64 (a1 - x5_1))] rfl (by (try simp only [List.map_toArray, List.map_cons, List.map_nil]); first | done | rfl | (simp only [l9_, List.length_take]; rfl)) ?_; (with_reducible refine (ih k1 (by have := HK1.out; omega) _ _ ((rd_T47 l0_0 x6_1).f0) (wrap64 (a1 - x5_1)) t187 _ ?side1 ?side2 A7.out).mono ?_); (case side1 => repeat (first | exact (Kd.C_below HR186_0.out HB.out) | (with_reducible refine Kd.C_alloc ?_ _) | (with_reducible refine Kd.C_drewN ?_ _) | (with_reducible refine Kd.C_drew ?_))); (case side2 => exact HC186_0.out); rintro e w9 ⟨rfl, hb⟩; refine ⟨_, rfl, ?_⟩; have n0_ := mk0 (aJ_ (g := gb185) (o := .cells #[.slice (some ad186) l0_0.length c0_0] 47 (0, 0)) (by (with_reducible repeat (first | refine aH_ ?_ _ | refine aK_ ?_ | refine aE_ ?_ _)); exact BK185.out) hb); have n1_ := mk0 (aP_ (by repeat (first | (with_reducible first | exact HB.out | apply aA_ | apply aB_ | apply aD_ | refine aG_ ?_ GE185.out) | exact HB.out)) hb); clear BK185; clear HB; have BK185 := n0_; have HB := n1_; clear n0_ n1_; (try clear hb); (try clear hb2); (try clear hk); (try clear hi)))
      go_roundg k1
      case measure => have := HK1.out; omega
      case rel => exact ⟨(wrap64 (x5_1 + t187)), (wrap64 (x6_1 + 1)), (by first | rfl | (simp; done) | (simp [*]; done)), (by first | rfl | (simp; done) | (simp [*]; done)), H', ⟨by have := HK1.out; omega⟩, ⟨by (with_reducible repeat (first | refine aH_ ?_ _ | refine aK_ ?_ | refine aE_ ?_ _)); exact BK185.out⟩, ⟨by repeat (first | (with_reducible first | exact HB.out | apply aA_ | apply aB_ | apply aD_ | refine aG_ ?_ GE185.out) | exact HB.out)⟩⟩
     ·rw [if_neg c6] at H
      exact absurd H (by simp)
    ·rw [if_neg c5] at H
     have c5b0 : decide (x5_1 ≤ a1) = false := l3_ c5
     clear c5
     obtain rfl := l13_ H
     have hcz10_0 : wr.cell? ⟨gb185, 0, none⟩ = some (.slice A0_0 l0_0.length c0_0) := (aC_ BK185.out 0).trans rfl
     have hfz10_0 := aF_ BK185.out 0
     go_wp2
     go_ret
     exact ⟨by first | rfl | (simp [aR_, aQ_] <;> rfl) | (simp [*, aR_, aQ_] <;> rfl), by repeat (first | (with_reducible first | exact HB.out | apply aA_ | apply aB_ | apply aD_ | refine aG_ ?_ GE185.out) | exact HB.out)⟩
   ·rw [if_neg c4] at H
    have c4b0 : decide (x6_1 < (l0_0.length : Int)) = false := l3_ c4
    clear c4
    obtain rfl := l13_ H
    have hcz11_0 : wr.cell? ⟨gb185, 0, none⟩ = some (.slice A0_0 l0_0.length c0_0) := (aC_ BK185.out 0).trans rfl
    have hfz11_0 := aF_ BK185.out 0
    go_wp2
    go_ret
    exact ⟨by first | rfl | (simp [aR_, aQ_] <;> rfl) | (simp [*, aR_, aQ_] <;> rfl), by repeat (first | (with_reducible first | exact HB.out | apply aA_ | apply aB_ | apply aD_ | refine aG_ ?_ GE185.out) | exact HB.out)⟩
end Go.Proofs.YthflpbgloeimfaaGreatDoor.Q
