/- What schemeOwn_calls, handed_and_shaped, own, laidOut, laid7, mx_of_shaped, arg_scheme needs, out of my texts, by a program (slim.py). -/
import Derived.Test.YthflpbgloeimfaaGreatDoorSO1
namespace Go.Proofs.YthflpbgloeimfaaGreatDoor.Q
open Go.RowKit Go.Proofs.YthflpbgloeimfaaGreatDoorW.PrintWords Go.Proofs.YthflpbgloeimfaaGreatDoorW.PrintLast Go.Proofs.YthflpbgloeimfaaGreatDoorW.PrintMore
attribute [local go_sem] max2_int min2_int max_two min_two max_three min_three max_four min_four
set_option linter.unusedVariables false
set_option linter.unusedSimpArgs false
mutual
def virgationref01_depth.l0 : Nat → Int → List (S47) → Int → Int → Option (Int)
 | 0, _, _, _, _ => none
 | k + 1, x3, x7, x8, x9 => if x9 < x8 then (if 0 ≤ x9 then (if x9 < (x7.length : Int) then ((virgationref01_depth.f k ((rd_T47 x7 x9).f0)).bind fun t191 => (virgationref01_depth.l0 k (mx x3 t191) x7 x8 (wrap64 (x9 + 1)))) else (none)) else (none)) else (some (wrap64 (x3 + 1)))
def virgationref01_depth.f : Nat → List (S47) → Option (Int)
 | 0, _ => none
 | k + 1, l0_0 => virgationref01_depth.l0 k 0 l0_0 (l0_0.length : Int) 0
end
set_option maxHeartbeats 8000000 in
set_option maxRecDepth 100000 in
theorem virgationref01_depth.calls (k : Nat) : ∀ (A0_0 : Option Addr) (c0_0 : Nat) (l0_0 : List (S47)) (r : Int) (w : World) (hr0_0 : Kd.C k47 w A0_0 l0_0.length l0_0) (hc0_0 : l0_0.length ≤ c0_0) (h : virgationref01_depth.f k l0_0 = some r),
  Calls Tryz.prog 89 #[.agg #[.slice A0_0 l0_0.length c0_0]] w fun e w' => e = .returned (.int .i64 r) ∧ Below w.heap.size w w' := by
 induction k using Nat.strongRecOn with
 | _ k ih =>
 intro A0_0 c0_0 l0_0 r w hr0_0 hc0_0 h
 cases k with
 | zero => exact absurd h (by simp [virgationref01_depth.f])
 | succ k =>
 simp only [virgationref01_depth.f] at h
 have hu47 := Tryz.underlying47
 have HR0_0 := mk0 hr0_0
 have HC0_0 := mk0 hc0_0
 clear hr0_0 hc0_0
 have HB := mk0 (Below.refl w.heap.size w)
 have H : (virgationref01_depth.l0 k 0 l0_0 (l0_0.length : Int) 0) = some r := h
 clear h
 have H' := mk0 H
 clear H
 go_enter Tryz.func89, Tryz.ntmps89
 go_wp2_with (first | ((with_reducible refine gate_dst (N := 1) rfl ?_); refine box_event ?hg (N := 1) ?hd (cs := #[.slice A0_0 l0_0.length c0_0]) (t := 47) ?hr ?_; (case hd => rfl); (case hg => rfl); (case hr => first | (go_simp; done) | (go_simp; rfl)); intro gb188 hg w2 hbox hb; have n0_ := mk0 (aN_ (by repeat (first | (with_reducible first | exact HB.out | apply aA_ | apply aB_ | apply aE_) | exact HB.out)) hb); have n1_ := mk0 (hbox); have n2_ := mk0 ((by rw [hg]; exact (aL_ (by repeat (first | (with_reducible first | exact HB.out | apply aA_ | apply aB_ | apply aE_) | exact HB.out))) : w.heap.size ≤ gb188)); have n3_ := mk0 ((by rw [hg]; exact (aL_ (by repeat (first | (with_reducible first | exact HB.out | apply aA_ | apply aB_ | apply aE_) | exact HB.out))) : w.heap.size ≤ gb188)); clear HB; have HB := n0_; have BK188 := n1_; have GW188 := n2_; have GE188 := n3_; clear n0_ n1_ n2_ n3_; clear hb hbox hg; have hcz3_0 : w2.cell? ⟨gb188, 0, none⟩ = some (.slice A0_0 l0_0.length c0_0) := (aC_ BK188.out 0).trans rfl; have hfz3_0 := aJ_ BK188.out 0))
 go_loopg [3, 9] k (fun kq v3 v9 w' => ∃ (x3_1 : Int) (x9_1 : Int), v3 = .int .i64 x3_1 ∧ v9 = .int .i64 x9_1 ∧ Aside0 (virgationref01_depth.l0 kq x3_1 l0_0 (l0_0.length : Int) x9_1 = some r) ∧ Aside0 (kq ≤ k) ∧ Aside0 (w'.heap[gb188]? = some (.cells #[(.slice A0_0 l0_0.length c0_0)] 47 (0, 0))) ∧ Aside0 (Below w.heap.size w w'))
 case atStart => exact ⟨(0), (0), (by first | rfl | (simp; done) | (simp [*]; done)), (by first | rfl | (simp; done) | (simp [*]; done)), H', ⟨Nat.le_refl _⟩, ⟨by (with_reducible repeat (first | refine aF_ ?_ _ | refine aH_ ?_ | refine aD_ ?_ _)); exact BK188.out⟩, ⟨by repeat (first | (with_reducible first | exact HB.out | apply aA_ | apply aB_ | apply aE_ | refine aG_ ?_ GE188.out) | exact HB.out)⟩⟩
 case round =>
  clear H'
  try clear p2
  try clear hcz3_0
  try clear hfz3_0
  obtain ⟨x3_1, x9_1, rfl, rfl, HA, HK1, BK188, HB⟩ := hrel
  cases gk with
  | zero => exact absurd HA.out (by simp [virgationref01_depth.l0])
  | succ k1 =>
   have H := HA.out
   clear HA
   simp only [virgationref01_depth.l0] at H
   by_cases c4 : x9_1 < (l0_0.length : Int)
   ·rw [if_pos c4] at H
    have c4b0 : decide (x9_1 < (l0_0.length : Int)) = true := l2_ c4
    clear c4
    by_cases c5 : 0 ≤ x9_1
    ·rw [if_pos c5] at H
     have c5b0 : decide (0 ≤ x9_1) = true := l2_ c5
     clear c5
     by_cases c6 : x9_1 < (l0_0.length : Int)
     ·rw [if_pos c6] at H
      have c6b0 : decide (x9_1 < (l0_0.length : Int)) = true := l2_ c6
      clear c6
      replace H := Option.bind_eq_some_iff.mp H
      obtain ⟨t191, A70, H⟩ := H
      replace H : (virgationref01_depth.l0 k1 (mx x3_1 t191) l0_0 (l0_0.length : Int) (wrap64 (x9_1 + 1))) = some r := H
      have A7 := mk0 A70
      clear A70
      obtain ⟨ji8, hji8⟩ : ∃ j_ : Int, (mx x3_1 t191) = j_ := ⟨_, rfl⟩
      replace H : (virgationref01_depth.l0 k1 ji8 l0_0 (l0_0.length : Int) (wrap64 (x9_1 + 1))) = some r := by first | (rw [hji8] at H; exact H) | (simp only [hji8] at H ⊢; exact H)
      (try rw [hji8] at A7)
      have hji8_ : (if x3_1 < t191 then t191 else x3_1) = ji8 := hji8
      have H' := mk0 H
      clear H
      have p189 : 0 ≤ (x9_1 : Int) := l0_ (by first | (with_reducible assumption) | assumption)
      have q189 : x9_1 < (l0_0.length : Int) := l0_ (by first | (with_reducible assumption) | assumption)
      obtain ⟨ad189, A189_0, c189_0, e189, hx189_0, hl189_0, hi189_0⟩ := at_T47 HR0_0.out x9_1 p189 q189
      cases e189
      replace hx189_0 := (HB.out.cell (l1_ w _ hx189_0)).trans hx189_0
      have HR189_0 := mk0 hi189_0
      have HC189_0 := mk0 hl189_0
      clear hi189_0 hl189_0
      replace p189 := eq_true p189
      replace q189 := eq_true q189
      go_wp2_with (first | ((with_reducible refine gate_dst (N := 5) rfl ?_); refine box_event ?hg (N := 5) ?hd (cs := #[.slice none 0 0]) (t := 47) ?hr ?_; (case hd => rfl); (case hg => rfl); (case hr => first | (go_simp; done) | (go_simp; rfl)); intro gb190 hg w9 hbox hb; have n0_ := mk0 (aK_ (g := gb188) (o := .cells #[.slice (some ad189) l0_0.length c0_0] 47 (0, 0)) (by (with_reducible repeat (first | refine aF_ ?_ _ | refine aH_ ?_ | refine aD_ ?_ _)); exact BK188.out) hb); have n1_ := mk0 (aN_ (by repeat (first | (with_reducible first | exact HB.out | apply aA_ | apply aB_ | apply aE_ | refine aG_ ?_ GE188.out) | exact HB.out)) hb); have n2_ := mk0 (hbox); have n3_ := mk0 ((by rw [hg]; exact (aL_ (by repeat (first | (with_reducible first | exact HB.out | apply aA_ | apply aB_ | apply aE_ | refine aG_ ?_ GE188.out) | exact HB.out))) : w.heap.size ≤ gb190)); have n4_ := mk0 ((by rw [hg]; exact (aL_ (by repeat (first | (with_reducible first | exact HB.out | apply aA_ | apply aB_ | apply aE_ | refine aG_ ?_ GE188.out) | exact HB.out))) : w.heap.size ≤ gb190)); have n5_ := mk0 ((by rw [hg]; exact Nat.ne_of_lt (blk_lt (g := gb188) (o := .cells #[.slice (some ad189) l0_0.length c0_0] 47 (0, 0)) (by (with_reducible repeat (first | refine aF_ ?_ _ | refine aH_ ?_ | refine aD_ ?_ _)); exact BK188.out)) : gb188 ≠ gb190)); have n6_ := mk0 ((by rw [hg]; exact Nat.ne_of_gt (blk_lt (g := gb188) (o := .cells #[.slice (some ad189) l0_0.length c0_0] 47 (0, 0)) (by (with_reducible repeat (first | refine aF_ ?_ _ | refine aH_ ?_ | refine aD_ ?_ _)); exact BK188.out)) : gb190 ≠ gb188)); clear BK188; clear HB; have BK188 := n0_; have HB := n1_; have BK190 := n2_; have GW190 := n3_; have GE190 := n4_; have NB188_190 := n5_; have NB190_188 := n6_; clear n0_ n1_ n2_ n3_ n4_ n5_ n6_; clear hb hbox hg; have hnb10 := NB190_188.out; have hnc10 := NB188_190.out; have hcz11_0 : w9.cell? ⟨gb190, 0, none⟩ = some (.slice none 0 0) := (aC_ BK190.out 0).trans rfl; have hfz11_0 := aJ_ BK190.out 0) | ((with_reducible refine gate_callee (f := 89) rfl ?_); refine goesL_ (some 15) rfl rfl Tryz.func89 (by kernel_rfl) rfl #[.agg #[.slice A189_0 ((rd_T47 l0_0 x9_1).f0).length c189_0]] rfl (by (try simp only [List.map_toArray, List.map_cons, List.map_nil]); first | done | rfl | (simp only [l9_, List.length_take]; rfl)) ?_; (with_reducible refine (ih k1 (by have := HK1.out; omega) _ _ ((rd_T47 l0_0 x9_1).f0) t191 _ ?side1 ?side2 A7.out).mono ?_); (case side1 => exact Kd.C_below HR189_0.out (by repeat (first | (with_reducible first | exact HB.out | apply aA_ | apply aB_ | apply aE_ | refine aG_ ?_ GE188.out | refine aG_ ?_ GE190.out) | exact HB.out))); (case side2 => exact HC189_0.out); rintro e w12 ⟨rfl, hb⟩; refine ⟨_, rfl, ?_⟩; have n0_ := mk0 (aK_ (g := gb188) (o := .cells #[.slice (some ad189) l0_0.length c0_0] 47 (0, 0)) (by (with_reducible repeat (first | refine aF_ ?_ _ | refine aH_ ?_ | refine aD_ ?_ _)); refine aT_ ?_ NB188_190.out _; (with_reducible repeat (first | refine aF_ ?_ _ | refine aH_ ?_ | refine aD_ ?_ _)); exact BK188.out) hb); have n1_ := mk0 (aK_ (g := gb190) (o := .cells #[.slice A189_0 ((rd_T47 l0_0 x9_1).f0).length c189_0] 47 (0, 0)) (by (with_reducible repeat (first | refine aF_ ?_ _ | refine aH_ ?_ | refine aD_ ?_ _)); refine blk_put (cs := #[.slice none 0 0]) ?_ 0 _ rfl; (with_reducible repeat (first | refine aF_ ?_ _ | refine aH_ ?_ | refine aD_ ?_ _)); exact BK190.out) hb); have n2_ := mk0 (aN_ (by repeat (first | (with_reducible first | exact HB.out | apply aA_ | apply aB_ | apply aE_ | refine aG_ ?_ GE188.out | refine aG_ ?_ GE190.out) | exact HB.out)) hb); clear BK188; clear BK190; clear HB; have BK188 := n0_; have BK190 := n1_; have HB := n2_; clear n0_ n1_ n2_; (try clear hb); (try clear hb2); (try clear hk); (try clear hi)))
      go_roundg k1
      case measure => have := HK1.out; omega
      case rel => exact ⟨(ji8), (wrap64 (x9_1 + 1)), (by first | rfl | (simp; done) | (simp only [← hji8] <;> (first | rfl | simp)) | (simp [*]; done)), (by first | rfl | (simp; done) | (simp [*]; done)), H', ⟨by have := HK1.out; omega⟩, ⟨by (with_reducible repeat (first | refine aF_ ?_ _ | refine aH_ ?_ | refine aD_ ?_ _)); exact BK188.out⟩, ⟨by repeat (first | (with_reducible first | exact HB.out | apply aA_ | apply aB_ | apply aE_ | refine aG_ ?_ GE188.out | refine aG_ ?_ GE190.out) | exact HB.out)⟩⟩
     ·rw [if_neg c6] at H
      exact absurd H (by simp)
    ·rw [if_neg c5] at H
     exact absurd H (by simp)
   ·rw [if_neg c4] at H
    have c4b0 : decide (x9_1 < (l0_0.length : Int)) = false := l3_ c4
    clear c4
    obtain rfl := l13_ H
    go_wp2
    go_ret
    exact ⟨by first | rfl | (simp [aS_, aR_] <;> rfl) | (simp [*, aS_, aR_] <;> rfl), by repeat (first | (with_reducible first | exact HB.out | apply aA_ | apply aB_ | apply aE_ | refine aG_ ?_ GE188.out) | exact HB.out)⟩
mutual
def virgationref01_few.l0 : Nat → List (S47) → Int → Int → List (S47) → Option (Bool)
 | 0, _, _, _, _ => none
 | k + 1, x6, x7, x8, x193000 => if x8 < x7 then (if 0 ≤ x8 then (if x8 < (x6.length : Int) then ((virgationref01_few.f k ((rd_T47 x6 x8).f0)).bind fun t195 => (if t195 = true then (virgationref01_few.l0 k x6 x7 (wrap64 (x8 + 1)) x193000) else (some false))) else (none)) else (none)) else (some (decide ((x193000.length : Int) ≤ 8)))
def virgationref01_few.f : Nat → List (S47) → Option (Bool)
 | 0, _ => none
 | k + 1, l0_0 => virgationref01_few.l0 k l0_0 (l0_0.length : Int) 0 l0_0
end
set_option maxHeartbeats 8000000 in
set_option maxRecDepth 100000 in
theorem virgationref01_few.calls (k : Nat) : ∀ (A0_0 : Option Addr) (c0_0 : Nat) (l0_0 : List (S47)) (r : Bool) (w : World) (hr0_0 : Kd.C k47 w A0_0 l0_0.length l0_0) (hc0_0 : l0_0.length ≤ c0_0) (h : virgationref01_few.f k l0_0 = some r),
  Calls Tryz.prog 90 #[.agg #[.slice A0_0 l0_0.length c0_0]] w fun e w' => e = .returned (.bool r) ∧ Below w.heap.size w w' := by
 induction k using Nat.strongRecOn with
 | _ k ih =>
 intro A0_0 c0_0 l0_0 r w hr0_0 hc0_0 h
 cases k with
 | zero => exact absurd h (by simp [virgationref01_few.f])
 | succ k =>
 simp only [virgationref01_few.f] at h
 have hu47 := Tryz.underlying47
 have HR0_0 := mk0 hr0_0
 have HC0_0 := mk0 hc0_0
 clear hr0_0 hc0_0
 have HB := mk0 (Below.refl w.heap.size w)
 have H : (virgationref01_few.l0 k l0_0 (l0_0.length : Int) 0 l0_0) = some r := h
 clear h
 have H' := mk0 H
 clear H
 go_enter Tryz.func90, Tryz.ntmps90
 go_wp2_with (first | ((with_reducible refine gate_dst (N := 1) rfl ?_); refine box_event ?hg (N := 1) ?hd (cs := #[.slice A0_0 l0_0.length c0_0]) (t := 47) ?hr ?_; (case hd => rfl); (case hg => rfl); (case hr => first | (go_simp; done) | (go_simp; rfl)); intro gb192 hg w2 hbox hb; have n0_ := mk0 (aN_ (by repeat (first | (with_reducible first | exact HB.out | apply aA_ | apply aB_ | apply aE_) | exact HB.out)) hb); have n1_ := mk0 (hbox); have n2_ := mk0 ((by rw [hg]; exact (aL_ (by repeat (first | (with_reducible first | exact HB.out | apply aA_ | apply aB_ | apply aE_) | exact HB.out))) : w.heap.size ≤ gb192)); have n3_ := mk0 ((by rw [hg]; exact (aL_ (by repeat (first | (with_reducible first | exact HB.out | apply aA_ | apply aB_ | apply aE_) | exact HB.out))) : w.heap.size ≤ gb192)); clear HB; have HB := n0_; have BK192 := n1_; have GW192 := n2_; have GE192 := n3_; clear n0_ n1_ n2_ n3_; clear hb hbox hg; have hcz3_0 : w2.cell? ⟨gb192, 0, none⟩ = some (.slice A0_0 l0_0.length c0_0) := (aC_ BK192.out 0).trans rfl; have hfz3_0 := aJ_ BK192.out 0))
 go_loopg [8] k (fun kq v8 w' => ∃ (x8_1 : Int), v8 = .int .i64 x8_1 ∧ Aside0 (virgationref01_few.l0 kq l0_0 (l0_0.length : Int) x8_1 l0_0 = some r) ∧ Aside0 (kq ≤ k) ∧ Aside0 (w'.heap[gb192]? = some (.cells #[(.slice A0_0 l0_0.length c0_0)] 47 (0, 0))) ∧ Aside0 (Below w.heap.size w w'))
 case atStart => exact ⟨(0), (by first | rfl | (simp; done) | (simp [*]; done)), H', ⟨Nat.le_refl _⟩, ⟨by (with_reducible repeat (first | refine aF_ ?_ _ | refine aH_ ?_ | refine aD_ ?_ _)); exact BK192.out⟩, ⟨by repeat (first | (with_reducible first | exact HB.out | apply aA_ | apply aB_ | apply aE_ | refine aG_ ?_ GE192.out) | exact HB.out)⟩⟩
 case round =>
  clear H'
  try clear p2
  try clear hcz3_0
  try clear hfz3_0
  obtain ⟨x8_1, rfl, HA, HK1, BK192, HB⟩ := hrel
  cases gk with
  | zero => exact absurd HA.out (by simp [virgationref01_few.l0])
  | succ k1 =>
   have H := HA.out
   clear HA
   simp only [virgationref01_few.l0] at H
   by_cases c4 : x8_1 < (l0_0.length : Int)
   ·rw [if_pos c4] at H
    have c4b0 : decide (x8_1 < (l0_0.length : Int)) = true := l2_ c4
    clear c4
    by_cases c5 : 0 ≤ x8_1
    ·rw [if_pos c5] at H
     have c5b0 : decide (0 ≤ x8_1) = true := l2_ c5
     clear c5
     by_cases c6 : x8_1 < (l0_0.length : Int)
     ·rw [if_pos c6] at H
      have c6b0 : decide (x8_1 < (l0_0.length : Int)) = true := l2_ c6
      clear c6
      replace H := Option.bind_eq_some_iff.mp H
      obtain ⟨t195, A70, H⟩ := H
      replace H : (if t195 = true then (virgationref01_few.l0 k1 l0_0 (l0_0.length : Int) (wrap64 (x8_1 + 1)) l0_0) else (some false)) = some r := H
      have A7 := mk0 A70
      clear A70
      by_cases c8 : t195 = true
      ·subst c8
       have H1 : (virgationref01_few.l0 k1 l0_0 (l0_0.length : Int) (wrap64 (x8_1 + 1)) l0_0) = some r := by rw [if_pos rfl] at H; exact H
       clear H
       have H := H1
       clear H1
       have H' := mk0 H
       clear H
       have p193 : 0 ≤ (x8_1 : Int) := l0_ (by first | (with_reducible assumption) | assumption)
       have q193 : x8_1 < (l0_0.length : Int) := l0_ (by first | (with_reducible assumption) | assumption)
       obtain ⟨ad193, A193_0, c193_0, e193, hx193_0, hl193_0, hi193_0⟩ := at_T47 HR0_0.out x8_1 p193 q193
       cases e193
       replace hx193_0 := (HB.out.cell (l1_ w _ hx193_0)).trans hx193_0
       have HR193_0 := mk0 hi193_0
       have HC193_0 := mk0 hl193_0
       clear hi193_0 hl193_0
       replace p193 := eq_true p193
       replace q193 := eq_true q193
       go_wp2_with (first | ((with_reducible refine gate_dst (N := 4) rfl ?_); refine box_event ?hg (N := 4) ?hd (cs := #[.slice none 0 0]) (t := 47) ?hr ?_; (case hd => rfl); (case hg => rfl); (case hr => first | (go_simp; done) | (go_simp; rfl)); intro gb194 hg w9 hbox hb; have n0_ := mk0 (aK_ (g := gb192) (o := .cells #[.slice (some ad193) l0_0.length c0_0] 47 (0, 0)) (by (with_reducible repeat (first | refine aF_ ?_ _ | refine aH_ ?_ | refine aD_ ?_ _)); exact BK192.out) hb); have n1_ := mk0 (aN_ (by repeat (first | (with_reducible first | exact HB.out | apply aA_ | apply aB_ | apply aE_ | refine aG_ ?_ GE192.out) | exact HB.out)) hb); have n2_ := mk0 (hbox); have n3_ := mk0 ((by rw [hg]; exact (aL_ (by repeat (first | (with_reducible first | exact HB.out | apply aA_ | apply aB_ | apply aE_ | refine aG_ ?_ GE192.out) | exact HB.out))) : w.heap.size ≤ gb194)); have n4_ := mk0 ((by rw [hg]; exact (aL_ (by repeat (first | (with_reducible first | exact HB.out | apply aA_ | apply aB_ | apply aE_ | refine aG_ ?_ GE192.out) | exact HB.out))) : w.heap.size ≤ gb194)); have n5_ := mk0 ((by rw [hg]; exact Nat.ne_of_lt (blk_lt (g := gb192) (o := .cells #[.slice (some ad193) l0_0.length c0_0] 47 (0, 0)) (by (with_reducible repeat (first | refine aF_ ?_ _ | refine aH_ ?_ | refine aD_ ?_ _)); exact BK192.out)) : gb192 ≠ gb194)); have n6_ := mk0 ((by rw [hg]; exact Nat.ne_of_gt (blk_lt (g := gb192) (o := .cells #[.slice (some ad193) l0_0.length c0_0] 47 (0, 0)) (by (with_reducible repeat (first | refine aF_ ?_ _ | refine aH_ ?_ | refine aD_ ?_ _)); exact BK192.out)) : gb194 ≠ gb192)); clear BK192; clear HB; have BK192 := n0_; have HB := n1_; have BK194 := n2_; have GW194 := n3_; have GE194 := n4_; have NB192_194 := n5_; have NB194_192 := n6_; clear n0_ n1_ n2_ n3_ n4_ n5_ n6_; clear hb hbox hg; have hnb10 := NB194_192.out; have hnc10 := NB192_194.out; have hcz11_0 : w9.cell? ⟨gb194, 0, none⟩ = some (.slice none 0 0) := (aC_ BK194.out 0).trans rfl; have hfz11_0 := aJ_ BK194.out 0) | ((with_reducible refine gate_callee (f := 90) rfl ?_); refine goesL_ (some 13) rfl rfl Tryz.func90 (by kernel_rfl) rfl #[.agg #[.slice A193_0 ((rd_T47 l0_0 x8_1).f0).length c193_0]] rfl (by (try simp only [List.map_toArray, List.map_cons, List.map_nil]); first | done | rfl | (simp only [l9_, List.length_take]; rfl)) ?_; (with_reducible refine (ih k1 (by have := HK1.out; omega) _ _ ((rd_T47 l0_0 x8_1).f0) true _ ?side1 ?side2 A7.out).mono ?_); (case side1 => exact Kd.C_below HR193_0.out (by repeat (first | (with_reducible first | exact HB.out | apply aA_ | apply aB_ | apply aE_ | refine aG_ ?_ GE192.out | refine aG_ ?_ GE194.out) | exact HB.out))); (case side2 => exact HC193_0.out); rintro e w12 ⟨rfl, hb⟩; refine ⟨_, rfl, ?_⟩; have n0_ := mk0 (aK_ (g := gb192) (o := .cells #[.slice (some ad193) l0_0.length c0_0] 47 (0, 0)) (by (with_reducible repeat (first | refine aF_ ?_ _ | refine aH_ ?_ | refine aD_ ?_ _)); refine aT_ ?_ NB192_194.out _; (with_reducible repeat (first | refine aF_ ?_ _ | refine aH_ ?_ | refine aD_ ?_ _)); exact BK192.out) hb); have n1_ := mk0 (aK_ (g := gb194) (o := .cells #[.slice A193_0 ((rd_T47 l0_0 x8_1).f0).length c193_0] 47 (0, 0)) (by (with_reducible repeat (first | refine aF_ ?_ _ | refine aH_ ?_ | refine aD_ ?_ _)); refine blk_put (cs := #[.slice none 0 0]) ?_ 0 _ rfl; (with_reducible repeat (first | refine aF_ ?_ _ | refine aH_ ?_ | refine aD_ ?_ _)); exact BK194.out) hb); have n2_ := mk0 (aN_ (by repeat (first | (with_reducible first | exact HB.out | apply aA_ | apply aB_ | apply aE_ | refine aG_ ?_ GE192.out | refine aG_ ?_ GE194.out) | exact HB.out)) hb); clear BK192; clear BK194; clear HB; have BK192 := n0_; have BK194 := n1_; have HB := n2_; clear n0_ n1_ n2_; (try clear hb); (try clear hb2); (try clear hk); (try clear hi)))
       go_roundg k1
       case measure => have := HK1.out; omega
       case rel => exact ⟨(wrap64 (x8_1 + 1)), (by first | rfl | (simp; done) | (simp [*]; done)), H', ⟨by have := HK1.out; omega⟩, ⟨by (with_reducible repeat (first | refine aF_ ?_ _ | refine aH_ ?_ | refine aD_ ?_ _)); exact BK192.out⟩, ⟨by repeat (first | (with_reducible first | exact HB.out | apply aA_ | apply aB_ | apply aE_ | refine aG_ ?_ GE192.out | refine aG_ ?_ GE194.out) | exact HB.out)⟩⟩
      ·replace c8 := Bool.eq_false_iff.mpr c8
       subst c8
       have H1 : (some false) = some r := by rw [if_neg (show ¬ (false = true) by decide)] at H; exact H
       clear H
       have H := H1
       clear H1
       obtain rfl := l13_ H
       have p193 : 0 ≤ (x8_1 : Int) := l0_ (by first | (with_reducible assumption) | assumption)
       have q193 : x8_1 < (l0_0.length : Int) := l0_ (by first | (with_reducible assumption) | assumption)
       obtain ⟨ad193, A193_0, c193_0, e193, hx193_0, hl193_0, hi193_0⟩ := at_T47 HR0_0.out x8_1 p193 q193
       cases e193
       replace hx193_0 := (HB.out.cell (l1_ w _ hx193_0)).trans hx193_0
       have HR193_0 := mk0 hi193_0
       have HC193_0 := mk0 hl193_0
       clear hi193_0 hl193_0
       replace p193 := eq_true p193
       replace q193 := eq_true q193
       go_wp2_with (first | ((with_reducible refine gate_dst (N := 4) rfl ?_); refine box_event ?hg (N := 4) ?hd (cs := #[.slice none 0 0]) (t := 47) ?hr ?_; (case hd => rfl); (case hg => rfl); (case hr => first | (go_simp; done) | (go_simp; rfl)); intro gb194 hg w13 hbox hb; have n0_ := mk0 (aK_ (g := gb192) (o := .cells #[.slice (some ad193) l0_0.length c0_0] 47 (0, 0)) (by (with_reducible repeat (first | refine aF_ ?_ _ | refine aH_ ?_ | refine aD_ ?_ _)); exact BK192.out) hb); have n1_ := mk0 (aN_ (by repeat (first | (with_reducible first | exact HB.out | apply aA_ | apply aB_ | apply aE_ | refine aG_ ?_ GE192.out) | exact HB.out)) hb); have n2_ := mk0 (hbox); have n3_ := mk0 ((by rw [hg]; exact (aL_ (by repeat (first | (with_reducible first | exact HB.out | apply aA_ | apply aB_ | apply aE_ | refine aG_ ?_ GE192.out) | exact HB.out))) : w.heap.size ≤ gb194)); have n4_ := mk0 ((by rw [hg]; exact (aL_ (by repeat (first | (with_reducible first | exact HB.out | apply aA_ | apply aB_ | apply aE_ | refine aG_ ?_ GE192.out) | exact HB.out))) : w.heap.size ≤ gb194)); have n5_ := mk0 ((by rw [hg]; exact Nat.ne_of_lt (blk_lt (g := gb192) (o := .cells #[.slice (some ad193) l0_0.length c0_0] 47 (0, 0)) (by (with_reducible repeat (first | refine aF_ ?_ _ | refine aH_ ?_ | refine aD_ ?_ _)); exact BK192.out)) : gb192 ≠ gb194)); have n6_ := mk0 ((by rw [hg]; exact Nat.ne_of_gt (blk_lt (g := gb192) (o := .cells #[.slice (some ad193) l0_0.length c0_0] 47 (0, 0)) (by (with_reducible repeat (first | refine aF_ ?_ _ | refine aH_ ?_ | refine aD_ ?_ _)); exact BK192.out)) : gb194 ≠ gb192)); clear BK192; clear HB; have BK192 := n0_; have HB := n1_; have BK194 := n2_; have GW194 := n3_; have GE194 := n4_; have NB192_194 := n5_; have NB194_192 := n6_; clear n0_ n1_ n2_ n3_ n4_ n5_ n6_; clear hb hbox hg; have hnb14 := NB194_192.out; have hnc14 := NB192_194.out; have hcz15_0 : w13.cell? ⟨gb194, 0, none⟩ = some (.slice none 0 0) := (aC_ BK194.out 0).trans rfl; have hfz15_0 := aJ_ BK194.out 0) | ((with_reducible refine gate_callee (f := 90) rfl ?_); refine goesL_ (some 13) rfl rfl Tryz.func90 (by kernel_rfl) rfl #[.agg #[.slice A193_0 ((rd_T47 l0_0 x8_1).f0).length c193_0]] rfl (by (try simp only [List.map_toArray, List.map_cons, List.map_nil]); first | done | rfl | (simp only [l9_, List.length_take]; rfl)) ?_; (with_reducible refine (ih k1 (by have := HK1.out; omega) _ _ ((rd_T47 l0_0 x8_1).f0) false _ ?side1 ?side2 A7.out).mono ?_); (case side1 => exact Kd.C_below HR193_0.out (by repeat (first | (with_reducible first | exact HB.out | apply aA_ | apply aB_ | apply aE_ | refine aG_ ?_ GE192.out | refine aG_ ?_ GE194.out) | exact HB.out))); (case side2 => exact HC193_0.out); rintro e w16 ⟨rfl, hb⟩; refine ⟨_, rfl, ?_⟩; have n0_ := mk0 (aK_ (g := gb192) (o := .cells #[.slice (some ad193) l0_0.length c0_0] 47 (0, 0)) (by (with_reducible repeat (first | refine aF_ ?_ _ | refine aH_ ?_ | refine aD_ ?_ _)); refine aT_ ?_ NB192_194.out _; (with_reducible repeat (first | refine aF_ ?_ _ | refine aH_ ?_ | refine aD_ ?_ _)); exact BK192.out) hb); have n1_ := mk0 (aK_ (g := gb194) (o := .cells #[.slice A193_0 ((rd_T47 l0_0 x8_1).f0).length c193_0] 47 (0, 0)) (by (with_reducible repeat (first | refine aF_ ?_ _ | refine aH_ ?_ | refine aD_ ?_ _)); refine blk_put (cs := #[.slice none 0 0]) ?_ 0 _ rfl; (with_reducible repeat (first | refine aF_ ?_ _ | refine aH_ ?_ | refine aD_ ?_ _)); exact BK194.out) hb); have n2_ := mk0 (aN_ (by repeat (first | (with_reducible first | exact HB.out | apply aA_ | apply aB_ | apply aE_ | refine aG_ ?_ GE192.out | refine aG_ ?_ GE194.out) | exact HB.out)) hb); clear BK192; clear BK194; clear HB; have BK192 := n0_; have BK194 := n1_; have HB := n2_; clear n0_ n1_ n2_; (try clear hb); (try clear hb2); (try clear hk); (try clear hi)))
       go_ret
       exact ⟨by first | rfl | (simp [aS_, aR_] <;> rfl) | (simp [*, aS_, aR_] <;> rfl), by repeat (first | (with_reducible first | exact HB.out | apply aA_ | apply aB_ | apply aE_ | refine aG_ ?_ GE192.out | refine aG_ ?_ GE194.out) | exact HB.out)⟩
     ·rw [if_neg c6] at H
      exact absurd H (by simp)
    ·rw [if_neg c5] at H
     exact absurd H (by simp)
   ·rw [if_neg c4] at H
    have c4b0 : decide (x8_1 < (l0_0.length : Int)) = false := l3_ c4
    clear c4
    obtain rfl := l13_ H
    have hcz17_0 : wr.cell? ⟨gb192, 0, none⟩ = some (.slice A0_0 l0_0.length c0_0) := (aC_ BK192.out 0).trans rfl
    have hfz17_0 := aJ_ BK192.out 0
    go_wp2
    go_ret
    exact ⟨by first | rfl | (simp [aS_, aR_] <;> rfl) | (simp [*, aS_, aR_] <;> rfl), by repeat (first | (with_reducible first | exact HB.out | apply aA_ | apply aB_ | apply aE_ | refine aG_ ?_ GE192.out) | exact HB.out)⟩
def virgationref01_Is.f (k : Nat) (l0_0 : List (S47)) : Option (Bool) := (virgationref01_Nodes.f k l0_0 60).bind fun t197 => (if t197 ≤ 60 then ((virgationref01_depth.f k l0_0).bind fun t198 => (if t198 ≤ 30 then ((virgationref01_few.f k l0_0).bind fun t199 => (some t199)) else (some false))) else (some false))
set_option maxHeartbeats 8000000 in
set_option maxRecDepth 100000 in
theorem virgationref01_Is.calls (k : Nat) (A0_0 : Option Addr) (c0_0 : Nat) (l0_0 : List (S47)) (r : Bool) (w : World) (hr0_0 : Kd.C k47 w A0_0 l0_0.length l0_0) (hc0_0 : l0_0.length ≤ c0_0) (h : virgationref01_Is.f k l0_0 = some r) :
  Calls Tryz.prog 37 #[.agg #[.slice A0_0 l0_0.length c0_0]] w fun e w' => e = .returned (.bool r) ∧ Below w.heap.size w w' := by
 have hu47 := Tryz.underlying47
 have HR0_0 := mk0 hr0_0
 have HC0_0 := mk0 hc0_0
 clear hr0_0 hc0_0
 have HB := mk0 (Below.refl w.heap.size w)
 have H : ((virgationref01_Nodes.f k l0_0 60).bind fun t197 => (if t197 ≤ 60 then ((virgationref01_depth.f k l0_0).bind fun t198 => (if t198 ≤ 30 then ((virgationref01_few.f k l0_0).bind fun t199 => (some t199)) else (some false))) else (some false))) = some r := h
 clear h
 replace H := Option.bind_eq_some_iff.mp H
 obtain ⟨t197, A20, H⟩ := H
 replace H : (if t197 ≤ 60 then ((virgationref01_depth.f k l0_0).bind fun t198 => (if t198 ≤ 30 then ((virgationref01_few.f k l0_0).bind fun t199 => (some t199)) else (some false))) else (some false)) = some r := H
 have A2 := mk0 A20
 clear A20
 by_cases c3 : t197 ≤ 60
 ·rw [if_pos c3] at H
  have c3b0 : decide (t197 ≤ 60) = true := l2_ c3
  clear c3
  replace H := Option.bind_eq_some_iff.mp H
  obtain ⟨t198, A40, H⟩ := H
  replace H : (if t198 ≤ 30 then ((virgationref01_few.f k l0_0).bind fun t199 => (some t199)) else (some false)) = some r := H
  have A4 := mk0 A40
  clear A40
  by_cases c5 : t198 ≤ 30
  ·rw [if_pos c5] at H
   have c5b0 : decide (t198 ≤ 30) = true := l2_ c5
   clear c5
   replace H := Option.bind_eq_some_iff.mp H
   obtain ⟨t199, A60, H⟩ := H
   replace H : (some t199) = some r := H
   have A6 := mk0 A60
   clear A60
   obtain rfl := l13_ H
   go_enter Tryz.func37, Tryz.ntmps37
   go_wp2_with (first | ((with_reducible refine gate_dst (N := 1) rfl ?_); refine box_event ?hg (N := 1) ?hd (cs := #[.slice A0_0 l0_0.length c0_0]) (t := 47) ?hr ?_; (case hd => rfl); (case hg => rfl); (case hr => first | (go_simp; done) | (go_simp; rfl)); intro gb196 hg w7 hbox hb; have n0_ := mk0 (aN_ (by repeat (first | (with_reducible first | exact HB.out | apply aA_ | apply aB_ | apply aE_) | exact HB.out)) hb); have n1_ := mk0 (hbox); have n2_ := mk0 ((by rw [hg]; exact (aL_ (by repeat (first | (with_reducible first | exact HB.out | apply aA_ | apply aB_ | apply aE_) | exact HB.out))) : w.heap.size ≤ gb196)); have n3_ := mk0 ((by rw [hg]; exact (aL_ (by repeat (first | (with_reducible first | exact HB.out | apply aA_ | apply aB_ | apply aE_) | exact HB.out))) : w.heap.size ≤ gb196)); clear HB; have HB := n0_; have BK196 := n1_; have GW196 := n2_; have GE196 := n3_; clear n0_ n1_ n2_ n3_; clear hb hbox hg; have hcz8_0 : w7.cell? ⟨gb196, 0, none⟩ = some (.slice A0_0 l0_0.length c0_0) := (aC_ BK196.out 0).trans rfl; have hfz8_0 := aJ_ BK196.out 0) | ((with_reducible refine gate_callee (f := 88) rfl ?_); refine goesL_ (some 4) rfl rfl Tryz.func88 (by kernel_rfl) rfl #[.agg #[.slice A0_0 l0_0.length c0_0], .int .i64 60] rfl (by (try simp only [List.map_toArray, List.map_cons, List.map_nil]); first | done | rfl | (simp only [l9_, List.length_take]; rfl)) ?_; (with_reducible refine (virgationref01_Nodes.calls k _ _ l0_0 60 t197 _ ?side1 ?side2 A2.out).mono ?_); (case side1 => repeat (first | exact (Kd.C_below HR0_0.out HB.out) | (with_reducible refine Kd.C_alloc ?_ _) | (with_reducible refine Kd.C_drewN ?_ _) | (with_reducible refine Kd.C_drew ?_))); (case side2 => exact HC0_0.out); rintro e w9 ⟨rfl, hb⟩; refine ⟨_, rfl, ?_⟩; have n0_ := mk0 (aK_ (g := gb196) (o := .cells #[.slice A0_0 l0_0.length c0_0] 47 (0, 0)) (by (with_reducible repeat (first | refine aF_ ?_ _ | refine aH_ ?_ | refine aD_ ?_ _)); exact BK196.out) hb); have n1_ := mk0 (aN_ (by repeat (first | (with_reducible first | exact HB.out | apply aA_ | apply aB_ | apply aE_ | refine aG_ ?_ GE196.out) | exact HB.out)) hb); clear BK196; clear HB; have BK196 := n0_; have HB := n1_; clear n0_ n1_; (try clear hb); (try clear hb2); (try clear hk); (try clear hi); have hcz10_0 : w9.cell? ⟨gb196, 0, none⟩ = some (.slice A0_0 l0_0.length c0_0) := (aC_ BK196.out 0).trans rfl; have hfz10_0 := aJ_ BK196.out 0) | (go_at_call 89; (with_reducible refine (virgationref01_depth.calls k _ _ l0_0 t198 _ ?side1 ?side2 A4.out).mono ?_); (case side1 => repeat (first | exact (Kd.C_below HR0_0.out HB.out) | (with_reducible refine Kd.C_alloc ?_ _) | (with_reducible refine Kd.C_drewN ?_ _) | (with_reducible refine Kd.C_drew ?_))); (case side2 => exact HC0_0.out); rintro e w11 ⟨rfl, hb⟩; have n0_ := mk0 (aK_ (g := gb196) (o := .cells #[.slice A0_0 l0_0.length c0_0] 47 (0, 0)) (by (with_reducible repeat (first | refine aF_ ?_ _ | refine aH_ ?_ | refine aD_ ?_ _)); exact BK196.out) hb); have n1_ := mk0 (aN_ (by repeat (first | (with_reducible first | exact HB.out | apply aA_ | apply aB_ | apply aE_ | refine aG_ ?_ GE196.out) | exact HB.out)) hb); clear BK196; clear HB; have BK196 := n0_; have HB := n1_; clear n0_ n1_; (try clear hb); (try clear hb2); (try clear hk); (try clear hi); have hcz12_0 : w11.cell? ⟨gb196, 0, none⟩ = some (.slice A0_0 l0_0.length c0_0) := (aC_ BK196.out 0).trans rfl; have hfz12_0 := aJ_ BK196.out 0) | (go_at_call 90; (with_reducible refine (virgationref01_few.calls k _ _ l0_0 t199 _ ?side1 ?side2 A6.out).mono ?_); (case side1 => repeat (first | exact (Kd.C_below HR0_0.out HB.out) | (with_reducible refine Kd.C_alloc ?_ _) | (with_reducible refine Kd.C_drewN ?_ _) | (with_reducible refine Kd.C_drew ?_))); (case side2 => exact HC0_0.out); rintro e w13 ⟨rfl, hb⟩; have n0_ := mk0 (aK_ (g := gb196) (o := .cells #[.slice A0_0 l0_0.length c0_0] 47 (0, 0)) (by (with_reducible repeat (first | refine aF_ ?_ _ | refine aH_ ?_ | refine aD_ ?_ _)); exact BK196.out) hb); have n1_ := mk0 (aN_ (by repeat (first | (with_reducible first | exact HB.out | apply aA_ | apply aB_ | apply aE_ | refine aG_ ?_ GE196.out) | exact HB.out)) hb); clear BK196; clear HB; have BK196 := n0_; have HB := n1_; clear n0_ n1_; (try clear hb); (try clear hb2); (try clear hk); (try clear hi)))
   go_ret
   exact ⟨by first | rfl | (simp [aS_, aR_] <;> rfl) | (simp [*, aS_, aR_] <;> rfl), by repeat (first | (with_reducible first | exact HB.out | apply aA_ | apply aB_ | apply aE_ | refine aG_ ?_ GE196.out) | exact HB.out)⟩
  ·rw [if_neg c5] at H
   have c5b0 : decide (t198 ≤ 30) = false := l3_ c5
   clear c5
   obtain rfl := l13_ H
   go_enter Tryz.func37, Tryz.ntmps37
   go_wp2_with (first | ((with_reducible refine gate_dst (N := 1) rfl ?_); refine box_event ?hg (N := 1) ?hd (cs := #[.slice A0_0 l0_0.length c0_0]) (t := 47) ?hr ?_; (case hd => rfl); (case hg => rfl); (case hr => first | (go_simp; done) | (go_simp; rfl)); intro gb196 hg w14 hbox hb; have n0_ := mk0 (aN_ (by repeat (first | (with_reducible first | exact HB.out | apply aA_ | apply aB_ | apply aE_) | exact HB.out)) hb); have n1_ := mk0 (hbox); have n2_ := mk0 ((by rw [hg]; exact (aL_ (by repeat (first | (with_reducible first | exact HB.out | apply aA_ | apply aB_ | apply aE_) | exact HB.out))) : w.heap.size ≤ gb196)); have n3_ := mk0 ((by rw [hg]; exact (aL_ (by repeat (first | (with_reducible first | exact HB.out | apply aA_ | apply aB_ | apply aE_) | exact HB.out))) : w.heap.size ≤ gb196)); clear HB; have HB := n0_; have BK196 := n1_; have GW196 := n2_; have GE196 := n3_; clear n0_ n1_ n2_ n3_; clear hb hbox hg; have hcz15_0 : w14.cell? ⟨gb196, 0, none⟩ = some (.slice A0_0 l0_0.length c0_0) := (aC_ BK196.out 0).trans rfl; have hfz15_0 := aJ_ BK196.out 0) | ((with_reducible refine gate_callee (f := 88) rfl ?_); refine goesL_ (some 4) rfl rfl Tryz.func88 (by kernel_rfl) rfl #[.agg #[.slice A0_0 l0_0.length c0_0], .int .i64 60] rfl (by (try simp only [List.map_toArray, List.map_cons, List.map_nil]); first | done | rfl | (simp only [l9_, List.length_take]; rfl)) ?_; (with_reducible refine (virgationref01_Nodes.calls k _ _ l0_0 60 t197 _ ?side1 ?side2 A2.out).mono ?_); (case side1 => repeat (first | exact (Kd.C_below HR0_0.out HB.out) | (with_reducible refine Kd.C_alloc ?_ _) | (with_reducible refine Kd.C_drewN ?_ _) | (with_reducible refine Kd.C_drew ?_))); (case side2 => exact HC0_0.out); rintro e w16 ⟨rfl, hb⟩; refine ⟨_, rfl, ?_⟩; have n0_ := mk0 (aK_ (g := gb196) (o := .cells #[.slice A0_0 l0_0.length c0_0] 47 (0, 0)) (by (with_reducible repeat (first | refine aF_ ?_ _ | refine aH_ ?_ | refine aD_ ?_ _)); exact BK196.out) hb); have n1_ := mk0 (aN_ (by repeat (first | (with_reducible first | exact HB.out | apply aA_ | apply aB_ | apply aE_ | refine aG_ ?_ GE196.out) | exact HB.out)) hb); clear BK196; clear HB; have BK196 := n0_; have HB := n1_; clear n0_ n1_; (try clear hb); (try clear hb2); (try clear hk); (try clear hi); have hcz17_0 : w16.cell? ⟨gb196, 0, none⟩ = some (.slice A0_0 l0_0.length c0_0) := (aC_ BK196.out 0).trans rfl; have hfz17_0 := aJ_ BK196.out 0) | (go_at_call 89; (with_reducible refine (virgationref01_depth.calls k _ _ l0_0 t198 _ ?side1 ?side2 A4.out).mono ?_); (case side1 => repeat (first | exact (Kd.C_below HR0_0.out HB.out) | (with_reducible refine Kd.C_alloc ?_ _) | (with_reducible refine Kd.C_drewN ?_ _) | (with_reducible refine Kd.C_drew ?_))); (case side2 => exact HC0_0.out); rintro e w18 ⟨rfl, hb⟩; have n0_ := mk0 (aK_ (g := gb196) (o := .cells #[.slice A0_0 l0_0.length c0_0] 47 (0, 0)) (by (with_reducible repeat (first | refine aF_ ?_ _ | refine aH_ ?_ | refine aD_ ?_ _)); exact BK196.out) hb); have n1_ := mk0 (aN_ (by repeat (first | (with_reducible first | exact HB.out | apply aA_ | apply aB_ | apply aE_ | refine aG_ ?_ GE196.out) | exact HB.out)) hb); clear BK196; clear HB; have BK196 := n0_; have HB := n1_; clear n0_ n1_; (try clear hb); (try clear hb2); (try clear hk); (try clear hi)))
   go_ret
   exact ⟨by first | rfl | (simp [aS_, aR_] <;> rfl) | (simp [*, aS_, aR_] <;> rfl), by repeat (first | (with_reducible first | exact HB.out | apply aA_ | apply aB_ | apply aE_ | refine aG_ ?_ GE196.out) | exact HB.out)⟩
 ·rw [if_neg c3] at H
  have c3b0 : decide (t197 ≤ 60) = false := l3_ c3
  clear c3
  obtain rfl := l13_ H
  go_enter Tryz.func37, Tryz.ntmps37
  go_wp2_with (first | ((with_reducible refine gate_dst (N := 1) rfl ?_); refine box_event ?hg (N := 1) ?hd (cs := #[.slice A0_0 l0_0.length c0_0]) (t := 47) ?hr ?_; (case hd => rfl); (case hg => rfl); (case hr => first | (go_simp; done) | (go_simp; rfl)); intro gb196 hg w19 hbox hb; have n0_ := mk0 (aN_ (by repeat (first | (with_reducible first | exact HB.out | apply aA_ | apply aB_ | apply aE_) | exact HB.out)) hb); have n1_ := mk0 (hbox); have n2_ := mk0 ((by rw [hg]; exact (aL_ (by repeat (first | (with_reducible first | exact HB.out | apply aA_ | apply aB_ | apply aE_) | exact HB.out))) : w.heap.size ≤ gb196)); have n3_ := mk0 ((by rw [hg]; exact (aL_ (by repeat (first | (with_reducible first | exact HB.out | apply aA_ | apply aB_ | apply aE_) | exact HB.out))) : w.heap.size ≤ gb196)); clear HB; have HB := n0_; have BK196 := n1_; have GW196 := n2_; have GE196 := n3_; clear n0_ n1_ n2_ n3_; clear hb hbox hg; have hcz20_0 : w19.cell? ⟨gb196, 0, none⟩ = some (.slice A0_0 l0_0.length c0_0) := (aC_ BK196.out 0).trans rfl; have hfz20_0 := aJ_ BK196.out 0) | ((with_reducible refine gate_callee (f := 88) rfl ?_); refine goesL_ (some 4) rfl rfl Tryz.func88 (by kernel_rfl) rfl #[.agg #[.slice A0_0 l0_0.length c0_0], .int .i64 60] rfl (by (try simp only [List.map_toArray, List.map_cons, List.map_nil]); first | done | rfl | (simp only [l9_, List.length_take]; rfl)) ?_; (with_reducible refine (virgationref01_Nodes.calls k _ _ l0_0 60 t197 _ ?side1 ?side2 A2.out).mono ?_); (case side1 => repeat (first | exact (Kd.C_below HR0_0.out HB.out) | (with_reducible refine Kd.C_alloc ?_ _) | (with_reducible refine Kd.C_drewN ?_ _) | (with_reducible refine Kd.C_drew ?_))); (case side2 => exact HC0_0.out); rintro e w21 ⟨rfl, hb⟩; refine ⟨_, rfl, ?_⟩; have n0_ := mk0 (aK_ (g := gb196) (o := .cells #[.slice A0_0 l0_0.length c0_0] 47 (0, 0)) (by (with_reducible repeat (first | refine aF_ ?_ _ | refine aH_ ?_ | refine aD_ ?_ _)); exact BK196.out) hb); have n1_ := mk0 (aN_ (by repeat (first | (with_reducible first | exact HB.out | apply aA_ | apply aB_ | apply aE_ | refine aG_ ?_ GE196.out) | exact HB.out)) hb); clear BK196; clear HB; have BK196 := n0_; have HB := n1_; clear n0_ n1_; (try clear hb); (try clear hb2); (try clear hk); (try clear hi)))
  go_ret
  exact ⟨by first | rfl | (simp [aS_, aR_] <;> rfl) | (simp [*, aS_, aR_] <;> rfl), by repeat (first | (with_reducible first | exact HB.out | apply aA_ | apply aB_ | apply aE_ | refine aG_ ?_ GE196.out) | exact HB.out)⟩
mutual
def virgationref01_Equal.l0 : Nat → Int → Int → List (S47) → List (S47) → Option (Bool)
 | 0, _, _, _, _ => none
 | k + 1, x15, x16, x201000, x202000 => if x16 < x15 then (if 0 ≤ x16 then (if x16 < (x201000.length : Int) then (if x16 < (x202000.length : Int) then ((virgationref01_Equal.f k ((rd_T47 x201000 x16).f0) ((rd_T47 x202000 x16).f0)).bind fun t204 => (if t204 = true then (virgationref01_Equal.l0 k x15 (wrap64 (x16 + 1)) x201000 x202000) else (some false))) else (none)) else (none)) else (none)) else (some true)
def virgationref01_Equal.f : Nat → List (S47) → List (S47) → Option (Bool)
 | 0, _, _ => none
 | k + 1, l0_0, l1_0 => if (l0_0.length : Int) = (l1_0.length : Int) then (virgationref01_Equal.l0 k (l0_0.length : Int) 0 l0_0 l1_0) else (some false)
end
def virgationref01_Equal.T6 : Bool × List (List Nat × List Nat) := (true, [([], []), ([0], [0]), ([], []), ([1, 2], [1, 2]), ([3], [3]), ([], []), ([5], [5]), ([], []), ([6, 7], [6, 7]), ([8], [8]), ([4, 9], [4, 9]), ([10], [10])])
def virgationref01_Equal.B6 : List Nat := [0, 1, 0, 7, 15, 0, 32, 0, 224, 480, 1023, 2047]
theorem virgationref01_Equal.tab6 : rtab .any (opsOf Tryz.f86 6) = virgationref01_Equal.T6 := by kernel_rfl
theorem virgationref01_Equal.bits6 : waitsOk virgationref01_Equal.T6.2 virgationref01_Equal.B6 = true := by kernel_rfl
set_option maxHeartbeats 8000000 in
set_option maxRecDepth 100000 in
theorem virgationref01_Equal.calls (k : Nat) : ∀ (A0_0 : Option Addr) (c0_0 : Nat) (l0_0 : List (S47)) (A1_0 : Option Addr) (c1_0 : Nat) (l1_0 : List (S47)) (r : Bool) (w : World) (hr0_0 : Kd.C k47 w A0_0 l0_0.length l0_0) (hc0_0 : l0_0.length ≤ c0_0) (hr1_0 : Kd.C k47 w A1_0 l1_0.length l1_0) (hc1_0 : l1_0.length ≤ c1_0) (h : virgationref01_Equal.f k l0_0 l1_0 = some r),
  Calls Tryz.prog 86 #[.agg #[.slice A0_0 l0_0.length c0_0], .agg #[.slice A1_0 l1_0.length c1_0]] w fun e w' => e = .returned (.bool r) ∧ Below w.heap.size w w' := by
 induction k using Nat.strongRecOn with
 | _ k ih =>
 intro A0_0 c0_0 l0_0 A1_0 c1_0 l1_0 r w hr0_0 hc0_0 hr1_0 hc1_0 h
 cases k with
 | zero => exact absurd h (by simp [virgationref01_Equal.f])
 | succ k =>
 simp only [virgationref01_Equal.f] at h
 have hu47 := Tryz.underlying47
 have HR0_0 := mk0 hr0_0
 have HC0_0 := mk0 hc0_0
 clear hr0_0 hc0_0
 have HR1_0 := mk0 hr1_0
 have HC1_0 := mk0 hc1_0
 clear hr1_0 hc1_0
 have HB := mk0 (Below.refl w.heap.size w)
 have H : (if (l0_0.length : Int) = (l1_0.length : Int) then (virgationref01_Equal.l0 k (l0_0.length : Int) 0 l0_0 l1_0) else (some false)) = some r := h
 clear h
 by_cases c3 : (l0_0.length : Int) = (l1_0.length : Int)
 ·rw [if_pos c3] at H
  have c3b0 : ((l0_0.length : Int) == (l1_0.length : Int)) = true := beq_iff_eq.mpr c3
  have c3b1 : ((l0_0.length : Int) != (l1_0.length : Int)) = false := bne_eq_false_iff_eq.mpr c3
  have c3b2 : (l0_0.length == l1_0.length) = true := by first | simpa using c3 | (simp at c3 ⊢; omega)
  clear c3
  have H' := mk0 H
  clear H
  go_enter Tryz.func86, Tryz.ntmps86
  go_wp2_with (first | ((with_reducible refine gate_dst (N := 2) rfl ?_); refine box_event ?hg (N := 2) ?hd (cs := #[.slice A0_0 l0_0.length c0_0]) (t := 47) ?hr ?_; (case hd => rfl); (case hg => rfl); (case hr => first | (go_simp; done) | (go_simp; rfl)); intro gb200 hg w4 hbox hb; have n0_ := mk0 (aN_ (by repeat (first | (with_reducible first | exact HB.out | apply aA_ | apply aB_ | apply aE_) | exact HB.out)) hb); have n1_ := mk0 (hbox); have n2_ := mk0 ((by rw [hg]; exact (aL_ (by repeat (first | (with_reducible first | exact HB.out | apply aA_ | apply aB_ | apply aE_) | exact HB.out))) : w.heap.size ≤ gb200)); have n3_ := mk0 ((by rw [hg]; exact (aL_ (by repeat (first | (with_reducible first | exact HB.out | apply aA_ | apply aB_ | apply aE_) | exact HB.out))) : w.heap.size ≤ gb200)); clear HB; have HB := n0_; have BK200 := n1_; have GW200 := n2_; have GE200 := n3_; clear n0_ n1_ n2_ n3_; clear hb hbox hg) | ((with_reducible refine gate_dst (N := 3) rfl ?_); refine box_event ?hg (N := 3) ?hd (cs := #[.slice A1_0 l1_0.length c1_0]) (t := 47) ?hr ?_; (case hd => rfl); (case hg => rfl); (case hr => first | (go_simp; done) | (go_simp; rfl)); intro gb201 hg w5 hbox hb; have n0_ := mk0 (aK_ (g := gb200) (o := .cells #[.slice A0_0 l0_0.length c0_0] 47 (0, 0)) (by (with_reducible repeat (first | refine aF_ ?_ _ | refine aH_ ?_ | refine aD_ ?_ _)); exact BK200.out) hb); have n1_ := mk0 (aN_ (by repeat (first | (with_reducible first | exact HB.out | apply aA_ | apply aB_ | apply aE_ | refine aG_ ?_ GE200.out) | exact HB.out)) hb); have n2_ := mk0 (hbox); have n3_ := mk0 ((by rw [hg]; exact (aL_ (by repeat (first | (with_reducible first | exact HB.out | apply aA_ | apply aB_ | apply aE_ | refine aG_ ?_ GE200.out) | exact HB.out))) : w.heap.size ≤ gb201)); have n4_ := mk0 ((by rw [hg]; exact (aL_ (by repeat (first | (with_reducible first | exact HB.out | apply aA_ | apply aB_ | apply aE_ | refine aG_ ?_ GE200.out) | exact HB.out))) : w.heap.size ≤ gb201)); have n5_ := mk0 ((by rw [hg]; exact Nat.ne_of_lt (blk_lt (g := gb200) (o := .cells #[.slice A0_0 l0_0.length c0_0] 47 (0, 0)) (by (with_reducible repeat (first | refine aF_ ?_ _ | refine aH_ ?_ | refine aD_ ?_ _)); exact BK200.out)) : gb200 ≠ gb201)); have n6_ := mk0 ((by rw [hg]; exact Nat.ne_of_gt (blk_lt (g := gb200) (o := .cells #[.slice A0_0 l0_0.length c0_0] 47 (0, 0)) (by (with_reducible repeat (first | refine aF_ ?_ _ | refine aH_ ?_ | refine aD_ ?_ _)); exact BK200.out)) : gb201 ≠ gb200)); clear BK200; clear HB; have BK200 := n0_; have HB := n1_; have BK201 := n2_; have GW201 := n3_; have GE201 := n4_; have NB200_201 := n5_; have NB201_200 := n6_; clear n0_ n1_ n2_ n3_ n4_ n5_ n6_; clear hb hbox hg; have hnb6 := NB200_201.out; have hnc6 := NB201_200.out; have hcz7_0 : w5.cell? ⟨gb200, 0, none⟩ = some (.slice A0_0 l0_0.length c0_0) := (aC_ BK200.out 0).trans rfl; have hfz7_0 := aJ_ BK200.out 0; have hcz8_0 : w5.cell? ⟨gb201, 0, none⟩ = some (.slice A1_0 l1_0.length c1_0) := (aC_ BK201.out 0).trans rfl; have hfz8_0 := aJ_ BK201.out 0))
  go_loopg [16] k (fun kq v16 w' => ∃ (x16_1 : Int), v16 = .int .i64 x16_1 ∧ Aside0 (virgationref01_Equal.l0 kq (l0_0.length : Int) x16_1 l0_0 l1_0 = some r) ∧ Aside0 (kq ≤ k) ∧ Aside0 (w'.heap[gb200]? = some (.cells #[(.slice A0_0 l0_0.length c0_0)] 47 (0, 0))) ∧ Aside0 (w'.heap[gb201]? = some (.cells #[(.slice A1_0 l1_0.length c1_0)] 47 (0, 0))) ∧ Aside0 (Below w.heap.size w w'))
  case atStart => exact ⟨(0), (by first | rfl | (simp; done) | (simp [*]; done)), H', ⟨Nat.le_refl _⟩, ⟨by (with_reducible repeat (first | refine aF_ ?_ _ | refine aH_ ?_ | refine aD_ ?_ _)); exact BK200.out⟩, ⟨by (with_reducible repeat (first | refine aF_ ?_ _ | refine aH_ ?_ | refine aD_ ?_ _)); exact BK201.out⟩, ⟨by repeat (first | (with_reducible first | exact HB.out | apply aA_ | apply aB_ | apply aE_ | refine aG_ ?_ GE200.out | refine aG_ ?_ GE201.out) | exact HB.out)⟩⟩
  case round =>
   clear H'
   try clear c1
   try clear p2
   try clear c3
   try clear c3b0
   try clear c3b1
   try clear c3b2
   try clear c6
   try clear c8
   try clear hcz7_0
   try clear hcz8_0
   try clear hfz7_0
   try clear hfz8_0
   obtain ⟨x16_1, rfl, HA, HK1, BK200, BK201, HB⟩ := hrel
   cases gk with
   | zero => exact absurd HA.out (by simp [virgationref01_Equal.l0])
   | succ k1 =>
    have H := HA.out
    clear HA
    simp only [virgationref01_Equal.l0] at H
    by_cases c9 : x16_1 < (l0_0.length : Int)
    ·rw [if_pos c9] at H
     have c9b0 : decide (x16_1 < (l0_0.length : Int)) = true := l2_ c9
     clear c9
     by_cases c10 : 0 ≤ x16_1
     ·rw [if_pos c10] at H
      have c10b0 : decide (0 ≤ x16_1) = true := l2_ c10
      clear c10
      by_cases c11 : x16_1 < (l0_0.length : Int)
      ·rw [if_pos c11] at H
       have c11b0 : decide (x16_1 < (l0_0.length : Int)) = true := l2_ c11
       clear c11
       by_cases c12 : x16_1 < (l1_0.length : Int)
       ·rw [if_pos c12] at H
        have c12b0 : decide (x16_1 < (l1_0.length : Int)) = true := l2_ c12
        clear c12
        replace H := Option.bind_eq_some_iff.mp H
        obtain ⟨t204, A130, H⟩ := H
        replace H : (if t204 = true then (virgationref01_Equal.l0 k1 (l0_0.length : Int) (wrap64 (x16_1 + 1)) l0_0 l1_0) else (some false)) = some r := H
        have A13 := mk0 A130
        clear A130
        by_cases c14 : t204 = true
        ·subst c14
         have H1 : (virgationref01_Equal.l0 k1 (l0_0.length : Int) (wrap64 (x16_1 + 1)) l0_0 l1_0) = some r := by rw [if_pos rfl] at H; exact H
         clear H
         have H := H1
         clear H1
         have H' := mk0 H
         clear H
         try go_wp2
         have n0_ := mk0 (aH_ BK200.out)
         have n1_ := mk0 (aH_ BK201.out)
         have n2_ := mk0 (aE_ HB.out)
         clear BK200
         clear BK201
         clear HB
         have BK200 := n0_
         have BK201 := n1_
         have HB := n2_
         clear n0_ n1_ n2_
         have p202 : 0 ≤ (x16_1 : Int) := l0_ (by first | (with_reducible assumption) | assumption)
         have q202 : x16_1 < (l0_0.length : Int) := l0_ (by first | (with_reducible assumption) | assumption)
         obtain ⟨ad202, A202_0, c202_0, e202, hx202_0, hl202_0, hi202_0⟩ := at_T47 HR0_0.out x16_1 p202 q202
         have hw202_0 := hx202_0
         cases e202
         replace hx202_0 := (HB.out.cell (l1_ w _ hx202_0)).trans hx202_0
         have HR202_0 := mk0 hi202_0
         have HC202_0 := mk0 hl202_0
         clear hi202_0 hl202_0
         replace p202 := eq_true p202
         replace q202 := eq_true q202
         have p203 : 0 ≤ (x16_1 : Int) := l0_ (by first | (with_reducible assumption) | assumption)
         have q203 : x16_1 < (l1_0.length : Int) := l0_ (by first | (with_reducible assumption) | assumption)
         obtain ⟨ad203, A203_0, c203_0, e203, hx203_0, hl203_0, hi203_0⟩ := at_T47 HR1_0.out x16_1 p203 q203
         have hw203_0 := hx203_0
         cases e203
         replace hx203_0 := (HB.out.cell (l1_ w _ hx203_0)).trans hx203_0
         have HR203_0 := mk0 hi203_0
         have HC203_0 := mk0 hl203_0
         clear hi203_0 hl203_0
         replace p203 := eq_true p203
         replace q203 := eq_true q203
         refine start_ (n := 12) (S := fun w' => w'.cell? ⟨gb200, 0, none⟩ = some (.slice (some ad202) l0_0.length c0_0) ∧ w'.cell? ⟨gb201, 0, none⟩ = some (.slice (some ad203) l1_0.length c1_0) ∧ w'.cell? (ad202.add (x16_1).toNat) = some (.slice A202_0 ((rd_T47 l0_0 x16_1).f0).length c202_0) ∧ w'.cell? (ad203.add (x16_1).toNat) = some (.slice A203_0 ((rd_T47 l1_0 x16_1).f0).length c203_0)) (ds := []) #[false, false, false, false, false, false, false, false, false, false, false, false] (by kernel_rfl) rfl rfl ⟨(aC_ BK200.out 0).trans rfl, (aC_ BK201.out 0).trans rfl, ((HB.out.cell (l1_ w _ hw202_0)).trans hw202_0), ((HB.out.cell (l1_ w _ hw203_0)).trans hw203_0)⟩ (fun hHeld => ?_); refine with_tabW virgationref01_Equal.tab6 virgationref01_Equal.bits6 (fun HT_ HW_ => ?_)
         generalize wr.drew = w15 at BK200 BK201 HB HR202_0 HR203_0 hx202_0 hx203_0 hHeld ⊢
         refine pure_ (i := 0) (N := some 19) (v := ?_) (a' := ?_) #[true, false, false, false, false, false, false, false, false, false, false, false] rfl rfl (any_of HT_.out (by kernel_rfl)) (fun _ _ _ h => h) (Or.inl ⟨by rfl, ?_⟩) ?_ ?_
         rotate_left
         ·intro w'
          go_simp
          with_reducible rfl
         rotate_left
         ·simp only [Act.put, l4_, l5_, l6_, i64_w, i32_w]
          rfl
         refine pure_ (i := 2) (N := some 21) (v := ?_) (a' := ?_) #[true, false, true, false, false, false, false, false, false, false, false, false] rfl rfl (any_of HT_.out (by kernel_rfl)) (fun _ _ _ h => h) (Or.inl ⟨by rfl, ?_⟩) ?_ ?_
         rotate_left
         ·intro w'
          go_simp
          with_reducible rfl
         rotate_left
         ·simp only [Act.put, l4_, l5_, l6_, i64_w, i32_w]
          rfl
         refine pure_ (i := 5) (N := some 24) (v := ?_) (a' := ?_) #[true, false, true, false, false, true, false, false, false, false, false, false] rfl rfl (any_of HT_.out (by kernel_rfl)) (fun _ _ _ h => h) (Or.inl ⟨by rfl, ?_⟩) ?_ ?_
         rotate_left
         ·intro w'
          go_simp
          with_reducible rfl
         rotate_left
         ·simp only [Act.put, l4_, l5_, l6_, i64_w, i32_w]
          rfl
         refine pure_ (i := 7) (N := some 26) (v := ?_) (a' := ?_) #[true, false, true, false, false, true, false, true, false, false, false, false] rfl rfl (any_of HT_.out (by kernel_rfl)) (fun _ _ _ h => h) (Or.inl ⟨by rfl, ?_⟩) ?_ ?_
         rotate_left
         ·intro w'
          go_simp
          with_reducible rfl
         rotate_left
         ·simp only [Act.put, l4_, l5_, l6_, i64_w, i32_w]
          rfl
         refine take_ (i := 1) (N := some 20) (v := ?_) (a' := ?_) #[true, true, true, false, false, true, false, true, false, false, false, false] rfl rfl (take_ofW HT_.out HW_.out (by kernel_rfl)) (fun _ _ _ h => h) (Or.inl ⟨by rfl, ?_⟩) hHeld ?_ ?_
         rotate_left
         ·rintro w' ⟨s0, s1, s2, s3⟩
          go_simp
          with_reducible rfl
         rotate_left
         ·simp only [Act.put, l4_, l5_, l6_, i64_w, i32_w]
          rfl
         refine pure_ (i := 3) (N := some 22) (v := ?_) (a' := ?_) #[true, true, true, true, false, true, false, true, false, false, false, false] rfl rfl (any_of HT_.out (by kernel_rfl)) (fun _ _ _ h => h) (Or.inl ⟨by rfl, ?_⟩) ?_ ?_
         rotate_left
         ·intro w'
          go_simp
          with_reducible rfl
         rotate_left
         ·simp only [Act.put, l4_, l5_, l6_, i64_w, i32_w]
          rfl
         refine take_ (i := 4) (N := some 23) (v := ?_) (a' := ?_) #[true, true, true, true, true, true, false, true, false, false, false, false] rfl rfl (take_ofW HT_.out HW_.out (by kernel_rfl)) (fun _ _ _ h => h) (Or.inl ⟨by rfl, ?_⟩) hHeld ?_ ?_
         rotate_left
         ·rintro w' ⟨s0, s1, s2, s3⟩
          go_simp
          with_reducible rfl
         rotate_left
         ·simp only [Act.put, l4_, l5_, l6_, i64_w, i32_w]
          rfl
         refine take_ (i := 6) (N := some 25) (v := ?_) (a' := ?_) #[true, true, true, true, true, true, true, true, false, false, false, false] rfl rfl (take_ofW HT_.out HW_.out (by kernel_rfl)) (fun _ _ _ h => h) (Or.inl ⟨by rfl, ?_⟩) hHeld ?_ ?_
         rotate_left
         ·rintro w' ⟨s0, s1, s2, s3⟩
          go_simp
          with_reducible rfl
         rotate_left
         ·simp only [Act.put, l4_, l5_, l6_, i64_w, i32_w]
          rfl
         refine pure_ (i := 8) (N := some 27) (v := ?_) (a' := ?_) #[true, true, true, true, true, true, true, true, true, false, false, false] rfl rfl (any_of HT_.out (by kernel_rfl)) (fun _ _ _ h => h) (Or.inl ⟨by rfl, ?_⟩) ?_ ?_
         rotate_left
         ·intro w'
          go_simp
          with_reducible rfl
         rotate_left
         ·simp only [Act.put, l4_, l5_, l6_, i64_w, i32_w]
          rfl
         refine take_ (i := 9) (N := some 28) (v := ?_) (a' := ?_) #[true, true, true, true, true, true, true, true, true, true, false, false] rfl rfl (take_ofW HT_.out HW_.out (by kernel_rfl)) (fun _ _ _ h => h) (Or.inl ⟨by rfl, ?_⟩) hHeld ?_ ?_
         rotate_left
         ·rintro w' ⟨s0, s1, s2, s3⟩
          go_simp
          with_reducible rfl
         rotate_left
         ·simp only [Act.put, l4_, l5_, l6_, i64_w, i32_w]
          rfl
         refine one_ (i := 10) (N := some 29) #[true, true, true, true, true, true, true, true, true, true, true, false] rfl rfl (one_of HT_.out (by kernel_rfl)) (by decide) (fun K hK => ?_)
         refine goes_ Tryz.func86 (by kernel_rfl) rfl #[.agg #[.slice A202_0 ((rd_T47 l0_0 x16_1).f0).length c202_0], .agg #[.slice A203_0 ((rd_T47 l1_0 x16_1).f0).length c203_0]] (by rfl) rfl rfl (by (try simp only [List.map_toArray, List.map_cons, List.map_nil]); first | done | rfl | (simp only [l9_, List.length_take]; rfl)) ?_
         with_reducible refine (ih k1 (by have := HK1.out; omega) _ _ ((rd_T47 l0_0 x16_1).f0) _ _ ((rd_T47 l1_0 x16_1).f0) true _ ?side1 ?side2 ?side3 ?side4 A13.out).mono ?_
         (case side1 => repeat (first | exact (Kd.C_below HR202_0.out HB.out) | (with_reducible refine Kd.C_alloc ?_ _) | (with_reducible refine Kd.C_drewN ?_ _) | (with_reducible refine Kd.C_drew ?_)))
         (case side2 => exact HC202_0.out)
         (case side3 => repeat (first | exact (Kd.C_below HR203_0.out HB.out) | (with_reducible refine Kd.C_alloc ?_ _) | (with_reducible refine Kd.C_drewN ?_ _) | (with_reducible refine Kd.C_drew ?_)))
         (case side4 => exact HC203_0.out)
         rintro e w16 ⟨rfl, hb⟩
         refine ⟨_, rfl, ?_⟩
         have n0_ := mk0 (aK_ (g := gb200) (o := .cells #[.slice (some ad202) l0_0.length c0_0] 47 (0, 0)) (by (with_reducible repeat (first | refine aF_ ?_ _ | refine aH_ ?_ | refine aD_ ?_ _)); exact BK200.out) hb)
         have n1_ := mk0 (aK_ (g := gb201) (o := .cells #[.slice (some ad203) l1_0.length c1_0] 47 (0, 0)) (by (with_reducible repeat (first | refine aF_ ?_ _ | refine aH_ ?_ | refine aD_ ?_ _)); exact BK201.out) hb)
         have n2_ := mk0 (aN_ (by repeat (first | (with_reducible first | exact HB.out | apply aA_ | apply aB_ | apply aE_ | refine aG_ ?_ GE200.out | refine aG_ ?_ GE201.out) | exact HB.out)) hb)
         clear BK200
         clear BK201
         clear HB
         have BK200 := n0_
         have BK201 := n1_
         have HB := n2_
         clear n0_ n1_ n2_
         (try clear hb)
         (try clear hb2)
         (try clear hk)
         (try clear hi)
         refine hK.out _ _ ⟨(aC_ BK200.out 0).trans rfl, (aC_ BK201.out 0).trans rfl, ((HB.out.cell (l1_ w _ hw202_0)).trans hw202_0), ((HB.out.cell (l1_ w _ hw203_0)).trans hw203_0)⟩ (fun hHeld => ?_)
         clear hK K
         refine norm_ (a' := ?_) ?_ ?_
         rotate_left
         ·show Act.put _ (some 29) _ = _
          simp only [Act.put, l4_, l5_, l6_, i64_w, i32_w]
          rfl
         refine pure_ (i := 11) (N := some 30) (v := ?_) (a' := ?_) #[true, true, true, true, true, true, true, true, true, true, true, true] rfl rfl (any_of HT_.out (by kernel_rfl)) (fun _ _ _ h => h) (Or.inl ⟨by rfl, ?_⟩) ?_ ?_
         rotate_left
         ·intro w'
          go_simp
          with_reducible rfl
         rotate_left
         ·simp only [Act.put, l4_, l5_, l6_, i64_w, i32_w]
          rfl
         refine done_ (done_of HT_.out (by kernel_rfl)) ?_
         try go_wp2
         go_roundg k1
         case measure => have := HK1.out; omega
         case rel => exact ⟨(wrap64 (x16_1 + 1)), (by first | rfl | (simp; done) | (simp [*]; done)), H', ⟨by have := HK1.out; omega⟩, ⟨by (with_reducible repeat (first | refine aF_ ?_ _ | refine aH_ ?_ | refine aD_ ?_ _)); exact BK200.out⟩, ⟨by (with_reducible repeat (first | refine aF_ ?_ _ | refine aH_ ?_ | refine aD_ ?_ _)); exact BK201.out⟩, ⟨by repeat (first | (with_reducible first | exact HB.out | apply aA_ | apply aB_ | apply aE_ | refine aG_ ?_ GE200.out | refine aG_ ?_ GE201.out) | exact HB.out)⟩⟩
        ·replace c14 := Bool.eq_false_iff.mpr c14
         subst c14
         have H1 : (some false) = some r := by rw [if_neg (show ¬ (false = true) by decide)] at H; exact H
         clear H
         have H := H1
         clear H1
         obtain rfl := l13_ H
         try go_wp2
         have n0_ := mk0 (aH_ BK200.out)
         have n1_ := mk0 (aH_ BK201.out)
         have n2_ := mk0 (aE_ HB.out)
         clear BK200
         clear BK201
         clear HB
         have BK200 := n0_
         have BK201 := n1_
         have HB := n2_
         clear n0_ n1_ n2_
         have p202 : 0 ≤ (x16_1 : Int) := l0_ (by first | (with_reducible assumption) | assumption)
         have q202 : x16_1 < (l0_0.length : Int) := l0_ (by first | (with_reducible assumption) | assumption)
         obtain ⟨ad202, A202_0, c202_0, e202, hx202_0, hl202_0, hi202_0⟩ := at_T47 HR0_0.out x16_1 p202 q202
         have hw202_0 := hx202_0
         cases e202
         replace hx202_0 := (HB.out.cell (l1_ w _ hx202_0)).trans hx202_0
         have HR202_0 := mk0 hi202_0
         have HC202_0 := mk0 hl202_0
         clear hi202_0 hl202_0
         replace p202 := eq_true p202
         replace q202 := eq_true q202
         have p203 : 0 ≤ (x16_1 : Int) := l0_ (by first | (with_reducible assumption) | assumption)
         have q203 : x16_1 < (l1_0.length : Int) := l0_ (by first | (with_reducible assumption) | assumption)
         obtain ⟨ad203, A203_0, c203_0, e203, hx203_0, hl203_0, hi203_0⟩ := at_T47 HR1_0.out x16_1 p203 q203
         have hw203_0 := hx203_0
         cases e203
         replace hx203_0 := (HB.out.cell (l1_ w _ hx203_0)).trans hx203_0
         have HR203_0 := mk0 hi203_0
         have HC203_0 := mk0 hl203_0
         clear hi203_0 hl203_0
         replace p203 := eq_true p203
         replace q203 := eq_true q203
         refine start_ (n := 12) (S := fun w' => w'.cell? ⟨gb200, 0, none⟩ = some (.slice (some ad202) l0_0.length c0_0) ∧ w'.cell? ⟨gb201, 0, none⟩ = some (.slice (some ad203) l1_0.length c1_0) ∧ w'.cell? (ad202.add (x16_1).toNat) = some (.slice A202_0 ((rd_T47 l0_0 x16_1).f0).length c202_0) ∧ w'.cell? (ad203.add (x16_1).toNat) = some (.slice A203_0 ((rd_T47 l1_0 x16_1).f0).length c203_0)) (ds := []) #[false, false, false, false, false, false, false, false, false, false, false, false] (by kernel_rfl) rfl rfl ⟨(aC_ BK200.out 0).trans rfl, (aC_ BK201.out 0).trans rfl, ((HB.out.cell (l1_ w _ hw202_0)).trans hw202_0), ((HB.out.cell (l1_ w _ hw203_0)).trans hw203_0)⟩ (fun hHeld => ?_); refine with_tabW virgationref01_Equal.tab6 virgationref01_Equal.bits6 (fun HT_ HW_ => ?_)
         generalize wr.drew = w17 at BK200 BK201 HB HR202_0 HR203_0 hx202_0 hx203_0 hHeld ⊢
         refine pure_ (i := 0) (N := some 19) (v := ?_) (a' := ?_) #[true, false, false, false, false, false, false, false, false, false, false, false] rfl rfl (any_of HT_.out (by kernel_rfl)) (fun _ _ _ h => h) (Or.inl ⟨by rfl, ?_⟩) ?_ ?_
         rotate_left
         ·intro w'
          go_simp
          with_reducible rfl
         rotate_left
         ·simp only [Act.put, l4_, l5_, l6_, i64_w, i32_w]
          rfl
         refine pure_ (i := 2) (N := some 21) (v := ?_) (a' := ?_) #[true, false, true, false, false, false, false, false, false, false, false, false] rfl rfl (any_of HT_.out (by kernel_rfl)) (fun _ _ _ h => h) (Or.inl ⟨by rfl, ?_⟩) ?_ ?_
         rotate_left
         ·intro w'
          go_simp
          with_reducible rfl
         rotate_left
         ·simp only [Act.put, l4_, l5_, l6_, i64_w, i32_w]
          rfl
         refine pure_ (i := 5) (N := some 24) (v := ?_) (a' := ?_) #[true, false, true, false, false, true, false, false, false, false, false, false] rfl rfl (any_of HT_.out (by kernel_rfl)) (fun _ _ _ h => h) (Or.inl ⟨by rfl, ?_⟩) ?_ ?_
         rotate_left
         ·intro w'
          go_simp
          with_reducible rfl
         rotate_left
         ·simp only [Act.put, l4_, l5_, l6_, i64_w, i32_w]
          rfl
         refine pure_ (i := 7) (N := some 26) (v := ?_) (a' := ?_) #[true, false, true, false, false, true, false, true, false, false, false, false] rfl rfl (any_of HT_.out (by kernel_rfl)) (fun _ _ _ h => h) (Or.inl ⟨by rfl, ?_⟩) ?_ ?_
         rotate_left
         ·intro w'
          go_simp
          with_reducible rfl
         rotate_left
         ·simp only [Act.put, l4_, l5_, l6_, i64_w, i32_w]
          rfl
         refine take_ (i := 1) (N := some 20) (v := ?_) (a' := ?_) #[true, true, true, false, false, true, false, true, false, false, false, false] rfl rfl (take_ofW HT_.out HW_.out (by kernel_rfl)) (fun _ _ _ h => h) (Or.inl ⟨by rfl, ?_⟩) hHeld ?_ ?_
         rotate_left
         ·rintro w' ⟨s0, s1, s2, s3⟩
          go_simp
          with_reducible rfl
         rotate_left
         ·simp only [Act.put, l4_, l5_, l6_, i64_w, i32_w]
          rfl
         refine pure_ (i := 3) (N := some 22) (v := ?_) (a' := ?_) #[true, true, true, true, false, true, false, true, false, false, false, false] rfl rfl (any_of HT_.out (by kernel_rfl)) (fun _ _ _ h => h) (Or.inl ⟨by rfl, ?_⟩) ?_ ?_
         rotate_left
         ·intro w'
          go_simp
          with_reducible rfl
         rotate_left
         ·simp only [Act.put, l4_, l5_, l6_, i64_w, i32_w]
          rfl
         refine take_ (i := 4) (N := some 23) (v := ?_) (a' := ?_) #[true, true, true, true, true, true, false, true, false, false, false, false] rfl rfl (take_ofW HT_.out HW_.out (by kernel_rfl)) (fun _ _ _ h => h) (Or.inl ⟨by rfl, ?_⟩) hHeld ?_ ?_
         rotate_left
         ·rintro w' ⟨s0, s1, s2, s3⟩
          go_simp
          with_reducible rfl
         rotate_left
         ·simp only [Act.put, l4_, l5_, l6_, i64_w, i32_w]
          rfl
         refine take_ (i := 6) (N := some 25) (v := ?_) (a' := ?_) #[true, true, true, true, true, true, true, true, false, false, false, false] rfl rfl (take_ofW HT_.out HW_.out (by kernel_rfl)) (fun _ _ _ h => h) (Or.inl ⟨by rfl, ?_⟩) hHeld ?_ ?_
         rotate_left
         ·rintro w' ⟨s0, s1, s2, s3⟩
          go_simp
          with_reducible rfl
         rotate_left
         ·simp only [Act.put, l4_, l5_, l6_, i64_w, i32_w]
          rfl
         refine pure_ (i := 8) (N := some 27) (v := ?_) (a' := ?_) #[true, true, true, true, true, true, true, true, true, false, false, false] rfl rfl (any_of HT_.out (by kernel_rfl)) (fun _ _ _ h => h) (Or.inl ⟨by rfl, ?_⟩) ?_ ?_
         rotate_left
         ·intro w'
          go_simp
          with_reducible rfl
         rotate_left
         ·simp only [Act.put, l4_, l5_, l6_, i64_w, i32_w]
          rfl
         refine take_ (i := 9) (N := some 28) (v := ?_) (a' := ?_) #[true, true, true, true, true, true, true, true, true, true, false, false] rfl rfl (take_ofW HT_.out HW_.out (by kernel_rfl)) (fun _ _ _ h => h) (Or.inl ⟨by rfl, ?_⟩) hHeld ?_ ?_
         rotate_left
         ·rintro w' ⟨s0, s1, s2, s3⟩
          go_simp
          with_reducible rfl
         rotate_left
         ·simp only [Act.put, l4_, l5_, l6_, i64_w, i32_w]
          rfl
         refine one_ (i := 10) (N := some 29) #[true, true, true, true, true, true, true, true, true, true, true, false] rfl rfl (one_of HT_.out (by kernel_rfl)) (by decide) (fun K hK => ?_)
         refine goes_ Tryz.func86 (by kernel_rfl) rfl #[.agg #[.slice A202_0 ((rd_T47 l0_0 x16_1).f0).length c202_0], .agg #[.slice A203_0 ((rd_T47 l1_0 x16_1).f0).length c203_0]] (by rfl) rfl rfl (by (try simp only [List.map_toArray, List.map_cons, List.map_nil]); first | done | rfl | (simp only [l9_, List.length_take]; rfl)) ?_
         with_reducible refine (ih k1 (by have := HK1.out; omega) _ _ ((rd_T47 l0_0 x16_1).f0) _ _ ((rd_T47 l1_0 x16_1).f0) false _ ?side1 ?side2 ?side3 ?side4 A13.out).mono ?_
         (case side1 => repeat (first | exact (Kd.C_below HR202_0.out HB.out) | (with_reducible refine Kd.C_alloc ?_ _) | (with_reducible refine Kd.C_drewN ?_ _) | (with_reducible refine Kd.C_drew ?_)))
         (case side2 => exact HC202_0.out)
         (case side3 => repeat (first | exact (Kd.C_below HR203_0.out HB.out) | (with_reducible refine Kd.C_alloc ?_ _) | (with_reducible refine Kd.C_drewN ?_ _) | (with_reducible refine Kd.C_drew ?_)))
         (case side4 => exact HC203_0.out)
         rintro e w18 ⟨rfl, hb⟩
         refine ⟨_, rfl, ?_⟩
         have n0_ := mk0 (aK_ (g := gb200) (o := .cells #[.slice (some ad202) l0_0.length c0_0] 47 (0, 0)) (by (with_reducible repeat (first | refine aF_ ?_ _ | refine aH_ ?_ | refine aD_ ?_ _)); exact BK200.out) hb)
         have n1_ := mk0 (aK_ (g := gb201) (o := .cells #[.slice (some ad203) l1_0.length c1_0] 47 (0, 0)) (by (with_reducible repeat (first | refine aF_ ?_ _ | refine aH_ ?_ | refine aD_ ?_ _)); exact BK201.out) hb)
         have n2_ := mk0 (aN_ (by repeat (first | (with_reducible first | exact HB.out | apply aA_ | apply aB_ | apply aE_ | refine aG_ ?_ GE200.out | refine aG_ ?_ GE201.out) | exact HB.out)) hb)
         clear BK200
         clear BK201
         clear HB
         have BK200 := n0_
         have BK201 := n1_
         have HB := n2_
         clear n0_ n1_ n2_
         (try clear hb)
         (try clear hb2)
         (try clear hk)
         (try clear hi)
         refine hK.out _ _ ⟨(aC_ BK200.out 0).trans rfl, (aC_ BK201.out 0).trans rfl, ((HB.out.cell (l1_ w _ hw202_0)).trans hw202_0), ((HB.out.cell (l1_ w _ hw203_0)).trans hw203_0)⟩ (fun hHeld => ?_)
         clear hK K
         refine norm_ (a' := ?_) ?_ ?_
         rotate_left
         ·show Act.put _ (some 29) _ = _
          simp only [Act.put, l4_, l5_, l6_, i64_w, i32_w]
          rfl
         refine pure_ (i := 11) (N := some 30) (v := ?_) (a' := ?_) #[true, true, true, true, true, true, true, true, true, true, true, true] rfl rfl (any_of HT_.out (by kernel_rfl)) (fun _ _ _ h => h) (Or.inl ⟨by rfl, ?_⟩) ?_ ?_
         rotate_left
         ·intro w'
          go_simp
          with_reducible rfl
         rotate_left
         ·simp only [Act.put, l4_, l5_, l6_, i64_w, i32_w]
          rfl
         refine done_ (done_of HT_.out (by kernel_rfl)) ?_
         try go_wp2
         go_ret
         exact ⟨by first | rfl | (simp [aS_, aR_] <;> rfl) | (simp [*, aS_, aR_] <;> rfl), by repeat (first | (with_reducible first | exact HB.out | apply aA_ | apply aB_ | apply aE_ | refine aG_ ?_ GE200.out | refine aG_ ?_ GE201.out) | exact HB.out)⟩
       ·rw [if_neg c12] at H
        exact absurd H (by simp)
      ·rw [if_neg c11] at H
       exact absurd H (by simp)
     ·rw [if_neg c10] at H
      exact absurd H (by simp)
    ·rw [if_neg c9] at H
     have c9b0 : decide (x16_1 < (l0_0.length : Int)) = false := l3_ c9
     clear c9
     obtain rfl := l13_ H
     go_wp2
     go_ret
     exact ⟨by first | rfl | (simp [aS_, aR_] <;> rfl) | (simp [*, aS_, aR_] <;> rfl), by repeat (first | (with_reducible first | exact HB.out | apply aA_ | apply aB_ | apply aE_ | refine aG_ ?_ GE200.out | refine aG_ ?_ GE201.out) | exact HB.out)⟩
 ·rw [if_neg c3] at H
  have c3b0 : ((l0_0.length : Int) == (l1_0.length : Int)) = false := beq_eq_false_iff_ne.mpr c3
  have c3b1 : ((l0_0.length : Int) != (l1_0.length : Int)) = true := bne_iff_ne.mpr c3
  have c3b2 : (l0_0.length == l1_0.length) = false := by first | simpa using c3 | (simp at c3 ⊢; omega)
  obtain rfl := l13_ H
  go_enter Tryz.func86, Tryz.ntmps86
  go_wp2_with (first | ((with_reducible refine gate_dst (N := 2) rfl ?_); refine box_event ?hg (N := 2) ?hd (cs := #[.slice A0_0 l0_0.length c0_0]) (t := 47) ?hr ?_; (case hd => rfl); (case hg => rfl); (case hr => first | (go_simp; done) | (go_simp; rfl)); intro gb200 hg w19 hbox hb; have n0_ := mk0 (aN_ (by repeat (first | (with_reducible first | exact HB.out | apply aA_ | apply aB_ | apply aE_) | exact HB.out)) hb); have n1_ := mk0 (hbox); have n2_ := mk0 ((by rw [hg]; exact (aL_ (by repeat (first | (with_reducible first | exact HB.out | apply aA_ | apply aB_ | apply aE_) | exact HB.out))) : w.heap.size ≤ gb200)); have n3_ := mk0 ((by rw [hg]; exact (aL_ (by repeat (first | (with_reducible first | exact HB.out | apply aA_ | apply aB_ | apply aE_) | exact HB.out))) : w.heap.size ≤ gb200)); clear HB; have HB := n0_; have BK200 := n1_; have GW200 := n2_; have GE200 := n3_; clear n0_ n1_ n2_ n3_; clear hb hbox hg) | ((with_reducible refine gate_dst (N := 3) rfl ?_); refine box_event ?hg (N := 3) ?hd (cs := #[.slice A1_0 l1_0.length c1_0]) (t := 47) ?hr ?_; (case hd => rfl); (case hg => rfl); (case hr => first | (go_simp; done) | (go_simp; rfl)); intro gb201 hg w20 hbox hb; have n0_ := mk0 (aK_ (g := gb200) (o := .cells #[.slice A0_0 l0_0.length c0_0] 47 (0, 0)) (by (with_reducible repeat (first | refine aF_ ?_ _ | refine aH_ ?_ | refine aD_ ?_ _)); exact BK200.out) hb); have n1_ := mk0 (aN_ (by repeat (first | (with_reducible first | exact HB.out | apply aA_ | apply aB_ | apply aE_ | refine aG_ ?_ GE200.out) | exact HB.out)) hb); have n2_ := mk0 (hbox); have n3_ := mk0 ((by rw [hg]; exact (aL_ (by repeat (first | (with_reducible first | exact HB.out | apply aA_ | apply aB_ | apply aE_ | refine aG_ ?_ GE200.out) | exact HB.out))) : w.heap.size ≤ gb201)); have n4_ := mk0 ((by rw [hg]; exact (aL_ (by repeat (first | (with_reducible first | exact HB.out | apply aA_ | apply aB_ | apply aE_ | refine aG_ ?_ GE200.out) | exact HB.out))) : w.heap.size ≤ gb201)); have n5_ := mk0 ((by rw [hg]; exact Nat.ne_of_lt (blk_lt (g := gb200) (o := .cells #[.slice A0_0 l0_0.length c0_0] 47 (0, 0)) (by (with_reducible repeat (first | refine aF_ ?_ _ | refine aH_ ?_ | refine aD_ ?_ _)); exact BK200.out)) : gb200 ≠ gb201)); have n6_ := mk0 ((by rw [hg]; exact Nat.ne_of_gt (blk_lt (g := gb200) (o := .cells #[.slice A0_0 l0_0.length c0_0] 47 (0, 0)) (by (with_reducible repeat (first | refine aF_ ?_ _ | refine aH_ ?_ | refine aD_ ?_ _)); exact BK200.out)) : gb201 ≠ gb200)); clear BK200; clear HB; have BK200 := n0_; have HB := n1_; have BK201 := n2_; have GW201 := n3_; have GE201 := n4_; have NB200_201 := n5_; have NB201_200 := n6_; clear n0_ n1_ n2_ n3_ n4_ n5_ n6_; clear hb hbox hg; have hnb21 := NB200_201.out; have hnc21 := NB201_200.out; have hcz22_0 : w20.cell? ⟨gb200, 0, none⟩ = some (.slice A0_0 l0_0.length c0_0) := (aC_ BK200.out 0).trans rfl; have hfz22_0 := aJ_ BK200.out 0; have hcz23_0 : w20.cell? ⟨gb201, 0, none⟩ = some (.slice A1_0 l1_0.length c1_0) := (aC_ BK201.out 0).trans rfl; have hfz23_0 := aJ_ BK201.out 0))
  go_ret
  exact ⟨by first | rfl | (simp [aS_, aR_] <;> rfl) | (simp [*, aS_, aR_] <;> rfl), by repeat (first | (with_reducible first | exact HB.out | apply aA_ | apply aB_ | apply aE_ | refine aG_ ?_ GE200.out | refine aG_ ?_ GE201.out) | exact HB.out)⟩
mutual
def sorts_same.l0 : Nat → Int → Int → List (S47) → List (S47) → Option (Bool)
 | 0, _, _, _, _ => none
 | k + 1, x15, x16, x226000, x227000 => if x16 < x15 then (if 0 ≤ x16 then (if x16 < (x226000.length : Int) then (if x16 < (x227000.length : Int) then ((sorts_same.f k ((rd_T47 x226000 x16).f0) ((rd_T47 x227000 x16).f0)).bind fun t229 => (if t229 = true then (sorts_same.l0 k x15 (wrap64 (x16 + 1)) x226000 x227000) else (some false))) else (none)) else (none)) else (none)) else (some true)
def sorts_same.f : Nat → List (S47) → List (S47) → Option (Bool)
 | 0, _, _ => none
 | k + 1, l0_0, l1_0 => if (l0_0.length : Int) = (l1_0.length : Int) then (sorts_same.l0 k (l0_0.length : Int) 0 l0_0 l1_0) else (some false)
end
def sorts_same.T6 : Bool × List (List Nat × List Nat) := (true, [([], []), ([0], [0]), ([], []), ([1, 2], [1, 2]), ([3], [3]), ([], []), ([5], [5]), ([], []), ([6, 7], [6, 7]), ([8], [8]), ([4, 9], [4, 9]), ([10], [10])])
def sorts_same.B6 : List Nat := [0, 1, 0, 7, 15, 0, 32, 0, 224, 480, 1023, 2047]
theorem sorts_same.tab6 : rtab .any (opsOf Tryz.f112 6) = sorts_same.T6 := by kernel_rfl
theorem sorts_same.bits6 : waitsOk sorts_same.T6.2 sorts_same.B6 = true := by kernel_rfl
set_option maxHeartbeats 8000000 in
set_option maxRecDepth 100000 in
theorem sorts_same.calls (k : Nat) : ∀ (A0_0 : Option Addr) (c0_0 : Nat) (l0_0 : List (S47)) (A1_0 : Option Addr) (c1_0 : Nat) (l1_0 : List (S47)) (r : Bool) (w : World) (hr0_0 : Kd.C k47 w A0_0 l0_0.length l0_0) (hc0_0 : l0_0.length ≤ c0_0) (hr1_0 : Kd.C k47 w A1_0 l1_0.length l1_0) (hc1_0 : l1_0.length ≤ c1_0) (h : sorts_same.f k l0_0 l1_0 = some r),
  Calls Tryz.prog 112 #[.agg #[.slice A0_0 l0_0.length c0_0], .agg #[.slice A1_0 l1_0.length c1_0]] w fun e w' => e = .returned (.bool r) ∧ Below w.heap.size w w' := by
 induction k using Nat.strongRecOn with
 | _ k ih =>
 intro A0_0 c0_0 l0_0 A1_0 c1_0 l1_0 r w hr0_0 hc0_0 hr1_0 hc1_0 h
 cases k with
 | zero => exact absurd h (by simp [sorts_same.f])
 | succ k =>
 simp only [sorts_same.f] at h
 have hu47 := Tryz.underlying47
 have HR0_0 := mk0 hr0_0
 have HC0_0 := mk0 hc0_0
 clear hr0_0 hc0_0
 have HR1_0 := mk0 hr1_0
 have HC1_0 := mk0 hc1_0
 clear hr1_0 hc1_0
 have HB := mk0 (Below.refl w.heap.size w)
 have H : (if (l0_0.length : Int) = (l1_0.length : Int) then (sorts_same.l0 k (l0_0.length : Int) 0 l0_0 l1_0) else (some false)) = some r := h
 clear h
 by_cases c3 : (l0_0.length : Int) = (l1_0.length : Int)
 ·rw [if_pos c3] at H
  have c3b0 : ((l0_0.length : Int) == (l1_0.length : Int)) = true := beq_iff_eq.mpr c3
  have c3b1 : ((l0_0.length : Int) != (l1_0.length : Int)) = false := bne_eq_false_iff_eq.mpr c3
  have c3b2 : (l0_0.length == l1_0.length) = true := by first | simpa using c3 | (simp at c3 ⊢; omega)
  clear c3
  have H' := mk0 H
  clear H
  go_enter Tryz.func112, Tryz.ntmps112
  go_wp2_with (first | ((with_reducible refine gate_dst (N := 2) rfl ?_); refine box_event ?hg (N := 2) ?hd (cs := #[.slice A0_0 l0_0.length c0_0]) (t := 47) ?hr ?_; (case hd => rfl); (case hg => rfl); (case hr => first | (go_simp; done) | (go_simp; rfl)); intro gb225 hg w4 hbox hb; have n0_ := mk0 (aN_ (by repeat (first | (with_reducible first | exact HB.out | apply aA_ | apply aB_ | apply aE_) | exact HB.out)) hb); have n1_ := mk0 (hbox); have n2_ := mk0 ((by rw [hg]; exact (aL_ (by repeat (first | (with_reducible first | exact HB.out | apply aA_ | apply aB_ | apply aE_) | exact HB.out))) : w.heap.size ≤ gb225)); have n3_ := mk0 ((by rw [hg]; exact (aL_ (by repeat (first | (with_reducible first | exact HB.out | apply aA_ | apply aB_ | apply aE_) | exact HB.out))) : w.heap.size ≤ gb225)); clear HB; have HB := n0_; have BK225 := n1_; have GW225 := n2_; have GE225 := n3_; clear n0_ n1_ n2_ n3_; clear hb hbox hg) | ((with_reducible refine gate_dst (N := 3) rfl ?_); refine box_event ?hg (N := 3) ?hd (cs := #[.slice A1_0 l1_0.length c1_0]) (t := 47) ?hr ?_; (case hd => rfl); (case hg => rfl); (case hr => first | (go_simp; done) | (go_simp; rfl)); intro gb226 hg w5 hbox hb; have n0_ := mk0 (aK_ (g := gb225) (o := .cells #[.slice A0_0 l0_0.length c0_0] 47 (0, 0)) (by (with_reducible repeat (first | refine aF_ ?_ _ | refine aH_ ?_ | refine aD_ ?_ _)); exact BK225.out) hb); have n1_ := mk0 (aN_ (by repeat (first | (with_reducible first | exact HB.out | apply aA_ | apply aB_ | apply aE_ | refine aG_ ?_ GE225.out) | exact HB.out)) hb); have n2_ := mk0 (hbox); have n3_ := mk0 ((by rw [hg]; exact (aL_ (by repeat (first | (with_reducible first | exact HB.out | apply aA_ | apply aB_ | apply aE_ | refine aG_ ?_ GE225.out) | exact HB.out))) : w.heap.size ≤ gb226)); have n4_ := mk0 ((by rw [hg]; exact (aL_ (by repeat (first | (with_reducible first | exact HB.out | apply aA_ | apply aB_ | apply aE_ | refine aG_ ?_ GE225.out) | exact HB.out))) : w.heap.size ≤ gb226)); have n5_ := mk0 ((by rw [hg]; exact Nat.ne_of_lt (blk_lt (g := gb225) (o := .cells #[.slice A0_0 l0_0.length c0_0] 47 (0, 0)) (by (with_reducible repeat (first | refine aF_ ?_ _ | refine aH_ ?_ | refine aD_ ?_ _)); exact BK225.out)) : gb225 ≠ gb226)); have n6_ := mk0 ((by rw [hg]; exact Nat.ne_of_gt (blk_lt (g := gb225) (o := .cells #[.slice A0_0 l0_0.length c0_0] 47 (0, 0)) (by (with_reducible repeat (first | refine aF_ ?_ _ | refine aH_ ?_ | refine aD_ ?_ _)); exact BK225.out)) : gb226 ≠ gb225)); clear BK225; clear HB; have BK225 := n0_; have HB := n1_; have BK226 := n2_; have GW226 := n3_; have GE226 := n4_; have NB225_226 := n5_; have NB226_225 := n6_; clear n0_ n1_ n2_ n3_ n4_ n5_ n6_; clear hb hbox hg; have hnb6 := NB225_226.out; have hnc6 := NB226_225.out; have hcz7_0 : w5.cell? ⟨gb225, 0, none⟩ = some (.slice A0_0 l0_0.length c0_0) := (aC_ BK225.out 0).trans rfl; have hfz7_0 := aJ_ BK225.out 0; have hcz8_0 : w5.cell? ⟨gb226, 0, none⟩ = some (.slice A1_0 l1_0.length c1_0) := (aC_ BK226.out 0).trans rfl; have hfz8_0 := aJ_ BK226.out 0))
  go_loopg [16] k (fun kq v16 w' => ∃ (x16_1 : Int), v16 = .int .i64 x16_1 ∧ Aside0 (sorts_same.l0 kq (l0_0.length : Int) x16_1 l0_0 l1_0 = some r) ∧ Aside0 (kq ≤ k) ∧ Aside0 (w'.heap[gb225]? = some (.cells #[(.slice A0_0 l0_0.length c0_0)] 47 (0, 0))) ∧ Aside0 (w'.heap[gb226]? = some (.cells #[(.slice A1_0 l1_0.length c1_0)] 47 (0, 0))) ∧ Aside0 (Below w.heap.size w w'))
  case atStart => exact ⟨(0), (by first | rfl | (simp; done) | (simp [*]; done)), H', ⟨Nat.le_refl _⟩, ⟨by (with_reducible repeat (first | refine aF_ ?_ _ | refine aH_ ?_ | refine aD_ ?_ _)); exact BK225.out⟩, ⟨by (with_reducible repeat (first | refine aF_ ?_ _ | refine aH_ ?_ | refine aD_ ?_ _)); exact BK226.out⟩, ⟨by repeat (first | (with_reducible first | exact HB.out | apply aA_ | apply aB_ | apply aE_ | refine aG_ ?_ GE225.out | refine aG_ ?_ GE226.out) | exact HB.out)⟩⟩
  case round =>
   clear H'
   try clear c1
   try clear p2
   try clear c3
   try clear c3b0
   try clear c3b1
   try clear c3b2
   try clear c6
   try clear hcz7_0
   try clear hcz8_0
   try clear hfz7_0
   try clear hfz8_0
   obtain ⟨x16_1, rfl, HA, HK1, BK225, BK226, HB⟩ := hrel
   cases gk with
   | zero => exact absurd HA.out (by simp [sorts_same.l0])
   | succ k1 =>
    have H := HA.out
    clear HA
    simp only [sorts_same.l0] at H
    by_cases c9 : x16_1 < (l0_0.length : Int)
    ·rw [if_pos c9] at H
     have c9b0 : decide (x16_1 < (l0_0.length : Int)) = true := l2_ c9
     clear c9
     by_cases c10 : 0 ≤ x16_1
     ·rw [if_pos c10] at H
      have c10b0 : decide (0 ≤ x16_1) = true := l2_ c10
      clear c10
      by_cases c11 : x16_1 < (l0_0.length : Int)
      ·rw [if_pos c11] at H
       have c11b0 : decide (x16_1 < (l0_0.length : Int)) = true := l2_ c11
       clear c11
       by_cases c12 : x16_1 < (l1_0.length : Int)
       ·rw [if_pos c12] at H
        have c12b0 : decide (x16_1 < (l1_0.length : Int)) = true := l2_ c12
        clear c12
        replace H := Option.bind_eq_some_iff.mp H
        obtain ⟨t229, A130, H⟩ := H
        replace H : (if t229 = true then (sorts_same.l0 k1 (l0_0.length : Int) (wrap64 (x16_1 + 1)) l0_0 l1_0) else (some false)) = some r := H
        have A13 := mk0 A130
        clear A130
        by_cases c14 : t229 = true
        ·subst c14
         have H1 : (sorts_same.l0 k1 (l0_0.length : Int) (wrap64 (x16_1 + 1)) l0_0 l1_0) = some r := by rw [if_pos rfl] at H; exact H
         clear H
         have H := H1
         clear H1
         have H' := mk0 H
         clear H
         try go_wp2
         have n0_ := mk0 (aH_ BK225.out)
         have n1_ := mk0 (aH_ BK226.out)
         have n2_ := mk0 (aE_ HB.out)
         clear BK225
         clear BK226
         clear HB
         have BK225 := n0_
         have BK226 := n1_
         have HB := n2_
         clear n0_ n1_ n2_
         have p227 : 0 ≤ (x16_1 : Int) := l0_ (by first | (with_reducible assumption) | assumption)
         have q227 : x16_1 < (l0_0.length : Int) := l0_ (by first | (with_reducible assumption) | assumption)
         obtain ⟨ad227, A227_0, c227_0, e227, hx227_0, hl227_0, hi227_0⟩ := at_T47 HR0_0.out x16_1 p227 q227
         have hw227_0 := hx227_0
         cases e227
         replace hx227_0 := (HB.out.cell (l1_ w _ hx227_0)).trans hx227_0
         have HR227_0 := mk0 hi227_0
         have HC227_0 := mk0 hl227_0
         clear hi227_0 hl227_0
         replace p227 := eq_true p227
         replace q227 := eq_true q227
         have p228 : 0 ≤ (x16_1 : Int) := l0_ (by first | (with_reducible assumption) | assumption)
         have q228 : x16_1 < (l1_0.length : Int) := l0_ (by first | (with_reducible assumption) | assumption)
         obtain ⟨ad228, A228_0, c228_0, e228, hx228_0, hl228_0, hi228_0⟩ := at_T47 HR1_0.out x16_1 p228 q228
         have hw228_0 := hx228_0
         cases e228
         replace hx228_0 := (HB.out.cell (l1_ w _ hx228_0)).trans hx228_0
         have HR228_0 := mk0 hi228_0
         have HC228_0 := mk0 hl228_0
         clear hi228_0 hl228_0
         replace p228 := eq_true p228
         replace q228 := eq_true q228
         refine start_ (n := 12) (S := fun w' => w'.cell? ⟨gb225, 0, none⟩ = some (.slice (some ad227) l0_0.length c0_0) ∧ w'.cell? ⟨gb226, 0, none⟩ = some (.slice (some ad228) l1_0.length c1_0) ∧ w'.cell? (ad227.add (x16_1).toNat) = some (.slice A227_0 ((rd_T47 l0_0 x16_1).f0).length c227_0) ∧ w'.cell? (ad228.add (x16_1).toNat) = some (.slice A228_0 ((rd_T47 l1_0 x16_1).f0).length c228_0)) (ds := []) #[false, false, false, false, false, false, false, false, false, false, false, false] (by kernel_rfl) rfl rfl ⟨(aC_ BK225.out 0).trans rfl, (aC_ BK226.out 0).trans rfl, ((HB.out.cell (l1_ w _ hw227_0)).trans hw227_0), ((HB.out.cell (l1_ w _ hw228_0)).trans hw228_0)⟩ (fun hHeld => ?_); refine with_tabW sorts_same.tab6 sorts_same.bits6 (fun HT_ HW_ => ?_)
         generalize wr.drew = w15 at BK225 BK226 HB HR227_0 HR228_0 hx227_0 hx228_0 hHeld ⊢
         refine pure_ (i := 0) (N := some 19) (v := ?_) (a' := ?_) #[true, false, false, false, false, false, false, false, false, false, false, false] rfl rfl (any_of HT_.out (by kernel_rfl)) (fun _ _ _ h => h) (Or.inl ⟨by rfl, ?_⟩) ?_ ?_
         rotate_left
         ·intro w'
          go_simp
          with_reducible rfl
         rotate_left
         ·simp only [Act.put, l4_, l5_, l6_, i64_w, i32_w]
          rfl
         refine pure_ (i := 2) (N := some 21) (v := ?_) (a' := ?_) #[true, false, true, false, false, false, false, false, false, false, false, false] rfl rfl (any_of HT_.out (by kernel_rfl)) (fun _ _ _ h => h) (Or.inl ⟨by rfl, ?_⟩) ?_ ?_
         rotate_left
         ·intro w'
          go_simp
          with_reducible rfl
         rotate_left
         ·simp only [Act.put, l4_, l5_, l6_, i64_w, i32_w]
          rfl
         refine pure_ (i := 5) (N := some 24) (v := ?_) (a' := ?_) #[true, false, true, false, false, true, false, false, false, false, false, false] rfl rfl (any_of HT_.out (by kernel_rfl)) (fun _ _ _ h => h) (Or.inl ⟨by rfl, ?_⟩) ?_ ?_
         rotate_left
         ·intro w'
          go_simp
          with_reducible rfl
         rotate_left
         ·simp only [Act.put, l4_, l5_, l6_, i64_w, i32_w]
          rfl
         refine pure_ (i := 7) (N := some 26) (v := ?_) (a' := ?_) #[true, false, true, false, false, true, false, true, false, false, false, false] rfl rfl (any_of HT_.out (by kernel_rfl)) (fun _ _ _ h => h) (Or.inl ⟨by rfl, ?_⟩) ?_ ?_
         rotate_left
         ·intro w'
          go_simp
          with_reducible rfl
         rotate_left
         ·simp only [Act.put, l4_, l5_, l6_, i64_w, i32_w]
          rfl
         refine take_ (i := 1) (N := some 20) (v := ?_) (a' := ?_) #[true, true, true, false, false, true, false, true, false, false, false, false] rfl rfl (take_ofW HT_.out HW_.out (by kernel_rfl)) (fun _ _ _ h => h) (Or.inl ⟨by rfl, ?_⟩) hHeld ?_ ?_
         rotate_left
         ·rintro w' ⟨s0, s1, s2, s3⟩
          go_simp
          with_reducible rfl
         rotate_left
         ·simp only [Act.put, l4_, l5_, l6_, i64_w, i32_w]
          rfl
         refine pure_ (i := 3) (N := some 22) (v := ?_) (a' := ?_) #[true, true, true, true, false, true, false, true, false, false, false, false] rfl rfl (any_of HT_.out (by kernel_rfl)) (fun _ _ _ h => h) (Or.inl ⟨by rfl, ?_⟩) ?_ ?_
         rotate_left
         ·intro w'
          go_simp
          with_reducible rfl
         rotate_left
         ·simp only [Act.put, l4_, l5_, l6_, i64_w, i32_w]
          rfl
         refine take_ (i := 4) (N := some 23) (v := ?_) (a' := ?_) #[true, true, true, true, true, true, false, true, false, false, false, false] rfl rfl (take_ofW HT_.out HW_.out (by kernel_rfl)) (fun _ _ _ h => h) (Or.inl ⟨by rfl, ?_⟩) hHeld ?_ ?_
         rotate_left
         ·rintro w' ⟨s0, s1, s2, s3⟩
          go_simp
          with_reducible rfl
         rotate_left
         ·simp only [Act.put, l4_, l5_, l6_, i64_w, i32_w]
          rfl
         refine take_ (i := 6) (N := some 25) (v := ?_) (a' := ?_) #[true, true, true, true, true, true, true, true, false, false, false, false] rfl rfl (take_ofW HT_.out HW_.out (by kernel_rfl)) (fun _ _ _ h => h) (Or.inl ⟨by rfl, ?_⟩) hHeld ?_ ?_
         rotate_left
         ·rintro w' ⟨s0, s1, s2, s3⟩
          go_simp
          with_reducible rfl
         rotate_left
         ·simp only [Act.put, l4_, l5_, l6_, i64_w, i32_w]
          rfl
         refine pure_ (i := 8) (N := some 27) (v := ?_) (a' := ?_) #[true, true, true, true, true, true, true, true, true, false, false, false] rfl rfl (any_of HT_.out (by kernel_rfl)) (fun _ _ _ h => h) (Or.inl ⟨by rfl, ?_⟩) ?_ ?_
         rotate_left
         ·intro w'
          go_simp
          with_reducible rfl
         rotate_left
         ·simp only [Act.put, l4_, l5_, l6_, i64_w, i32_w]
          rfl
         refine take_ (i := 9) (N := some 28) (v := ?_) (a' := ?_) #[true, true, true, true, true, true, true, true, true, true, false, false] rfl rfl (take_ofW HT_.out HW_.out (by kernel_rfl)) (fun _ _ _ h => h) (Or.inl ⟨by rfl, ?_⟩) hHeld ?_ ?_
         rotate_left
         ·rintro w' ⟨s0, s1, s2, s3⟩
          go_simp
          with_reducible rfl
         rotate_left
         ·simp only [Act.put, l4_, l5_, l6_, i64_w, i32_w]
          rfl
         refine one_ (i := 10) (N := some 29) #[true, true, true, true, true, true, true, true, true, true, true, false] rfl rfl (one_of HT_.out (by kernel_rfl)) (by decide) (fun K hK => ?_)
         refine goes_ Tryz.func112 (by kernel_rfl) rfl #[.agg #[.slice A227_0 ((rd_T47 l0_0 x16_1).f0).length c227_0], .agg #[.slice A228_0 ((rd_T47 l1_0 x16_1).f0).length c228_0]] (by rfl) rfl rfl (by (try simp only [List.map_toArray, List.map_cons, List.map_nil]); first | done | rfl | (simp only [l9_, List.length_take]; rfl)) ?_
         with_reducible refine (ih k1 (by have := HK1.out; omega) _ _ ((rd_T47 l0_0 x16_1).f0) _ _ ((rd_T47 l1_0 x16_1).f0) true _ ?side1 ?side2 ?side3 ?side4 A13.out).mono ?_
         (case side1 => repeat (first | exact (Kd.C_below HR227_0.out HB.out) | (with_reducible refine Kd.C_alloc ?_ _) | (with_reducible refine Kd.C_drewN ?_ _) | (with_reducible refine Kd.C_drew ?_)))
         (case side2 => exact HC227_0.out)
         (case side3 => repeat (first | exact (Kd.C_below HR228_0.out HB.out) | (with_reducible refine Kd.C_alloc ?_ _) | (with_reducible refine Kd.C_drewN ?_ _) | (with_reducible refine Kd.C_drew ?_)))
         (case side4 => exact HC228_0.out)
         rintro e w16 ⟨rfl, hb⟩
         refine ⟨_, rfl, ?_⟩
         have n0_ := mk0 (aK_ (g := gb225) (o := .cells #[.slice (some ad227) l0_0.length c0_0] 47 (0, 0)) (by (with_reducible repeat (first | refine aF_ ?_ _ | refine aH_ ?_ | refine aD_ ?_ _)); exact BK225.out) hb)
         have n1_ := mk0 (aK_ (g := gb226) (o := .cells #[.slice (some ad228) l1_0.length c1_0] 47 (0, 0)) (by (with_reducible repeat (first | refine aF_ ?_ _ | refine aH_ ?_ | refine aD_ ?_ _)); exact BK226.out) hb)
         have n2_ := mk0 (aN_ (by repeat (first | (with_reducible first | exact HB.out | apply aA_ | apply aB_ | apply aE_ | refine aG_ ?_ GE225.out | refine aG_ ?_ GE226.out) | exact HB.out)) hb)
         clear BK225
         clear BK226
         clear HB
         have BK225 := n0_
         have BK226 := n1_
         have HB := n2_
         clear n0_ n1_ n2_
         (try clear hb)
         (try clear hb2)
         (try clear hk)
         (try clear hi)
         refine hK.out _ _ ⟨(aC_ BK225.out 0).trans rfl, (aC_ BK226.out 0).trans rfl, ((HB.out.cell (l1_ w _ hw227_0)).trans hw227_0), ((HB.out.cell (l1_ w _ hw228_0)).trans hw228_0)⟩ (fun hHeld => ?_)
         clear hK K
         refine norm_ (a' := ?_) ?_ ?_
         rotate_left
         ·show Act.put _ (some 29) _ = _
          simp only [Act.put, l4_, l5_, l6_, i64_w, i32_w]
          rfl
         refine pure_ (i := 11) (N := some 30) (v := ?_) (a' := ?_) #[true, true, true, true, true, true, true, true, true, true, true, true] rfl rfl (any_of HT_.out (by kernel_rfl)) (fun _ _ _ h => h) (Or.inl ⟨by rfl, ?_⟩) ?_ ?_
         rotate_left
         ·intro w'
          go_simp
          with_reducible rfl
         rotate_left
         ·simp only [Act.put, l4_, l5_, l6_, i64_w, i32_w]
          rfl
         refine done_ (done_of HT_.out (by kernel_rfl)) ?_
         try go_wp2
         go_roundg k1
         case measure => have := HK1.out; omega
         case rel => exact ⟨(wrap64 (x16_1 + 1)), (by first | rfl | (simp; done) | (simp [*]; done)), H', ⟨by have := HK1.out; omega⟩, ⟨by (with_reducible repeat (first | refine aF_ ?_ _ | refine aH_ ?_ | refine aD_ ?_ _)); exact BK225.out⟩, ⟨by (with_reducible repeat (first | refine aF_ ?_ _ | refine aH_ ?_ | refine aD_ ?_ _)); exact BK226.out⟩, ⟨by repeat (first | (with_reducible first | exact HB.out | apply aA_ | apply aB_ | apply aE_ | refine aG_ ?_ GE225.out | refine aG_ ?_ GE226.out) | exact HB.out)⟩⟩
        ·replace c14 := Bool.eq_false_iff.mpr c14
         subst c14
         have H1 : (some false) = some r := by rw [if_neg (show ¬ (false = true) by decide)] at H; exact H
         clear H
         have H := H1
         clear H1
         obtain rfl := l13_ H
         try go_wp2
         have n0_ := mk0 (aH_ BK225.out)
         have n1_ := mk0 (aH_ BK226.out)
         have n2_ := mk0 (aE_ HB.out)
         clear BK225
         clear BK226
         clear HB
         have BK225 := n0_
         have BK226 := n1_
         have HB := n2_
         clear n0_ n1_ n2_
         have p227 : 0 ≤ (x16_1 : Int) := l0_ (by first | (with_reducible assumption) | assumption)
         have q227 : x16_1 < (l0_0.length : Int) := l0_ (by first | (with_reducible assumption) | assumption)
         obtain ⟨ad227, A227_0, c227_0, e227, hx227_0, hl227_0, hi227_0⟩ := at_T47 HR0_0.out x16_1 p227 q227
         have hw227_0 := hx227_0
         cases e227
         replace hx227_0 := (HB.out.cell (l1_ w _ hx227_0)).trans hx227_0
         have HR227_0 := mk0 hi227_0
         have HC227_0 := mk0 hl227_0
         clear hi227_0 hl227_0
         replace p227 := eq_true p227
         replace q227 := eq_true q227
         have p228 : 0 ≤ (x16_1 : Int) := l0_ (by first | (with_reducible assumption) | assumption)
         have q228 : x16_1 < (l1_0.length : Int) := l0_ (by first | (with_reducible assumption) | assumption)
         obtain ⟨ad228, A228_0, c228_0, e228, hx228_0, hl228_0, hi228_0⟩ := at_T47 HR1_0.out x16_1 p228 q228
         have hw228_0 := hx228_0
         cases e228
         replace hx228_0 := (HB.out.cell (l1_ w _ hx228_0)).trans hx228_0
         have HR228_0 := mk0 hi228_0
         have HC228_0 := mk0 hl228_0
         clear hi228_0 hl228_0
         replace p228 := eq_true p228
         replace q228 := eq_true q228
         refine start_ (n := 12) (S := fun w' => w'.cell? ⟨gb225, 0, none⟩ = some (.slice (some ad227) l0_0.length c0_0) ∧ w'.cell? ⟨gb226, 0, none⟩ = some (.slice (some ad228) l1_0.length c1_0) ∧ w'.cell? (ad227.add (x16_1).toNat) = some (.slice A227_0 ((rd_T47 l0_0 x16_1).f0).length c227_0) ∧ w'.cell? (ad228.add (x16_1).toNat) = some (.slice A228_0 ((rd_T47 l1_0 x16_1).f0).length c228_0)) (ds := []) #[false, false, false, false, false, false, false, false, false, false, false, false] (by kernel_rfl) rfl rfl ⟨(aC_ BK225.out 0).trans rfl, (aC_ BK226.out 0).trans rfl, ((HB.out.cell (l1_ w _ hw227_0)).trans hw227_0), ((HB.out.cell (l1_ w _ hw228_0)).trans hw228_0)⟩ (fun hHeld => ?_); refine with_tabW sorts_same.tab6 sorts_same.bits6 (fun HT_ HW_ => ?_)
         generalize wr.drew = w17 at BK225 BK226 HB HR227_0 HR228_0 hx227_0 hx228_0 hHeld ⊢
         refine pure_ (i := 0) (N := some 19) (v := ?_) (a' := ?_) #[true, false, false, false, false, false, false, false, false, false, false, false] rfl rfl (any_of HT_.out (by kernel_rfl)) (fun _ _ _ h => h) (Or.inl ⟨by rfl, ?_⟩) ?_ ?_
         rotate_left
         ·intro w'
          go_simp
          with_reducible rfl
         rotate_left
         ·simp only [Act.put, l4_, l5_, l6_, i64_w, i32_w]
          rfl
         refine pure_ (i := 2) (N := some 21) (v := ?_) (a' := ?_) #[true, false, true, false, false, false, false, false, false, false, false, false] rfl rfl (any_of HT_.out (by kernel_rfl)) (fun _ _ _ h => h) (Or.inl ⟨by rfl, ?_⟩) ?_ ?_
         rotate_left
         ·intro w'
          go_simp
          with_reducible rfl
         rotate_left
         ·simp only [Act.put, l4_, l5_, l6_, i64_w, i32_w]
          rfl
         refine pure_ (i := 5) (N := some 24) (v := ?_) (a' := ?_) #[true, false, true, false, false, true, false, false, false, false, false, false] rfl rfl (any_of HT_.out (by kernel_rfl)) (fun _ _ _ h => h) (Or.inl ⟨by rfl, ?_⟩) ?_ ?_
         rotate_left
         ·intro w'
          go_simp
          with_reducible rfl
         rotate_left
         ·simp only [Act.put, l4_, l5_, l6_, i64_w, i32_w]
          rfl
         refine pure_ (i := 7) (N := some 26) (v := ?_) (a' := ?_) #[true, false, true, false, false, true, false, true, false, false, false, false] rfl rfl (any_of HT_.out (by kernel_rfl)) (fun _ _ _ h => h) (Or.inl ⟨by rfl, ?_⟩) ?_ ?_
         rotate_left
         ·intro w'
          go_simp
          with_reducible rfl
         rotate_left
         ·simp only [Act.put, l4_, l5_, l6_, i64_w, i32_w]
          rfl
         refine take_ (i := 1) (N := some 20) (v := ?_) (a' := ?_) #[true, true, true, false, false, true, false, true, false, false, false, false] rfl rfl (take_ofW HT_.out HW_.out (by kernel_rfl)) (fun _ _ _ h => h) (Or.inl ⟨by rfl, ?_⟩) hHeld ?_ ?_
         rotate_left
         ·rintro w' ⟨s0, s1, s2, s3⟩
          go_simp
          with_reducible rfl
         rotate_left
         ·simp only [Act.put, l4_, l5_, l6_, i64_w, i32_w]
          rfl
         refine pure_ (i := 3) (N := some 22) (v := ?_) (a' := ?_) #[true, true, true, true, false, true, false, true, false, false, false, false] rfl rfl (any_of HT_.out (by kernel_rfl)) (fun _ _ _ h => h) (Or.inl ⟨by rfl, ?_⟩) ?_ ?_
         rotate_left
         ·intro w'
          go_simp
          with_reducible rfl
         rotate_left
         ·simp only [Act.put, l4_, l5_, l6_, i64_w, i32_w]
          rfl
         refine take_ (i := 4) (N := some 23) (v := ?_) (a' := ?_) #[true, true, true, true, true, true, false, true, false, false, false, false] rfl rfl (take_ofW HT_.out HW_.out (by kernel_rfl)) (fun _ _ _ h => h) (Or.inl ⟨by rfl, ?_⟩) hHeld ?_ ?_
         rotate_left
         ·rintro w' ⟨s0, s1, s2, s3⟩
          go_simp
          with_reducible rfl
         rotate_left
         ·simp only [Act.put, l4_, l5_, l6_, i64_w, i32_w]
          rfl
         refine take_ (i := 6) (N := some 25) (v := ?_) (a' := ?_) #[true, true, true, true, true, true, true, true, false, false, false, false] rfl rfl (take_ofW HT_.out HW_.out (by kernel_rfl)) (fun _ _ _ h => h) (Or.inl ⟨by rfl, ?_⟩) hHeld ?_ ?_
         rotate_left
         ·rintro w' ⟨s0, s1, s2, s3⟩
          go_simp
          with_reducible rfl
         rotate_left
         ·simp only [Act.put, l4_, l5_, l6_, i64_w, i32_w]
          rfl
         refine pure_ (i := 8) (N := some 27) (v := ?_) (a' := ?_) #[true, true, true, true, true, true, true, true, true, false, false, false] rfl rfl (any_of HT_.out (by kernel_rfl)) (fun _ _ _ h => h) (Or.inl ⟨by rfl, ?_⟩) ?_ ?_
         rotate_left
         ·intro w'
          go_simp
          with_reducible rfl
         rotate_left
         ·simp only [Act.put, l4_, l5_, l6_, i64_w, i32_w]
          rfl
         refine take_ (i := 9) (N := some 28) (v := ?_) (a' := ?_) #[true, true, true, true, true, true, true, true, true, true, false, false] rfl rfl (take_ofW HT_.out HW_.out (by kernel_rfl)) (fun _ _ _ h => h) (Or.inl ⟨by rfl, ?_⟩) hHeld ?_ ?_
         rotate_left
         ·rintro w' ⟨s0, s1, s2, s3⟩
          go_simp
          with_reducible rfl
         rotate_left
         ·simp only [Act.put, l4_, l5_, l6_, i64_w, i32_w]
          rfl
         refine one_ (i := 10) (N := some 29) #[true, true, true, true, true, true, true, true, true, true, true, false] rfl rfl (one_of HT_.out (by kernel_rfl)) (by decide) (fun K hK => ?_)
         refine goes_ Tryz.func112 (by kernel_rfl) rfl #[.agg #[.slice A227_0 ((rd_T47 l0_0 x16_1).f0).length c227_0], .agg #[.slice A228_0 ((rd_T47 l1_0 x16_1).f0).length c228_0]] (by rfl) rfl rfl (by (try simp only [List.map_toArray, List.map_cons, List.map_nil]); first | done | rfl | (simp only [l9_, List.length_take]; rfl)) ?_
         with_reducible refine (ih k1 (by have := HK1.out; omega) _ _ ((rd_T47 l0_0 x16_1).f0) _ _ ((rd_T47 l1_0 x16_1).f0) false _ ?side1 ?side2 ?side3 ?side4 A13.out).mono ?_
         (case side1 => repeat (first | exact (Kd.C_below HR227_0.out HB.out) | (with_reducible refine Kd.C_alloc ?_ _) | (with_reducible refine Kd.C_drewN ?_ _) | (with_reducible refine Kd.C_drew ?_)))
         (case side2 => exact HC227_0.out)
         (case side3 => repeat (first | exact (Kd.C_below HR228_0.out HB.out) | (with_reducible refine Kd.C_alloc ?_ _) | (with_reducible refine Kd.C_drewN ?_ _) | (with_reducible refine Kd.C_drew ?_)))
         (case side4 => exact HC228_0.out)
         rintro e w18 ⟨rfl, hb⟩
         refine ⟨_, rfl, ?_⟩
         have n0_ := mk0 (aK_ (g := gb225) (o := .cells #[.slice (some ad227) l0_0.length c0_0] 47 (0, 0)) (by (with_reducible repeat (first | refine aF_ ?_ _ | refine aH_ ?_ | refine aD_ ?_ _)); exact BK225.out) hb)
         have n1_ := mk0 (aK_ (g := gb226) (o := .cells #[.slice (some ad228) l1_0.length c1_0] 47 (0, 0)) (by (with_reducible repeat (first | refine aF_ ?_ _ | refine aH_ ?_ | refine aD_ ?_ _)); exact BK226.out) hb)
         have n2_ := mk0 (aN_ (by repeat (first | (with_reducible first | exact HB.out | apply aA_ | apply aB_ | apply aE_ | refine aG_ ?_ GE225.out | refine aG_ ?_ GE226.out) | exact HB.out)) hb)
         clear BK225
         clear BK226
         clear HB
         have BK225 := n0_
         have BK226 := n1_
         have HB := n2_
         clear n0_ n1_ n2_
         (try clear hb)
         (try clear hb2)
         (try clear hk)
         (try clear hi)
         refine hK.out _ _ ⟨(aC_ BK225.out 0).trans rfl, (aC_ BK226.out 0).trans rfl, ((HB.out.cell (l1_ w _ hw227_0)).trans hw227_0), ((HB.out.cell (l1_ w _ hw228_0)).trans hw228_0)⟩ (fun hHeld => ?_)
         clear hK K
         refine norm_ (a' := ?_) ?_ ?_
         rotate_left
         ·show Act.put _ (some 29) _ = _
          simp only [Act.put, l4_, l5_, l6_, i64_w, i32_w]
          rfl
         refine pure_ (i := 11) (N := some 30) (v := ?_) (a' := ?_) #[true, true, true, true, true, true, true, true, true, true, true, true] rfl rfl (any_of HT_.out (by kernel_rfl)) (fun _ _ _ h => h) (Or.inl ⟨by rfl, ?_⟩) ?_ ?_
         rotate_left
         ·intro w'
          go_simp
          with_reducible rfl
         rotate_left
         ·simp only [Act.put, l4_, l5_, l6_, i64_w, i32_w]
          rfl
         refine done_ (done_of HT_.out (by kernel_rfl)) ?_
         try go_wp2
         go_ret
         exact ⟨by first | rfl | (simp [aS_, aR_] <;> rfl) | (simp [*, aS_, aR_] <;> rfl), by repeat (first | (with_reducible first | exact HB.out | apply aA_ | apply aB_ | apply aE_ | refine aG_ ?_ GE225.out | refine aG_ ?_ GE226.out) | exact HB.out)⟩
       ·rw [if_neg c12] at H
        exact absurd H (by simp)
      ·rw [if_neg c11] at H
       exact absurd H (by simp)
     ·rw [if_neg c10] at H
      exact absurd H (by simp)
    ·rw [if_neg c9] at H
     have c9b0 : decide (x16_1 < (l0_0.length : Int)) = false := l3_ c9
     clear c9
     obtain rfl := l13_ H
     go_wp2
     go_ret
     exact ⟨by first | rfl | (simp [aS_, aR_] <;> rfl) | (simp [*, aS_, aR_] <;> rfl), by repeat (first | (with_reducible first | exact HB.out | apply aA_ | apply aB_ | apply aE_ | refine aG_ ?_ GE225.out | refine aG_ ?_ GE226.out) | exact HB.out)⟩
 ·rw [if_neg c3] at H
  have c3b0 : ((l0_0.length : Int) == (l1_0.length : Int)) = false := beq_eq_false_iff_ne.mpr c3
  have c3b1 : ((l0_0.length : Int) != (l1_0.length : Int)) = true := bne_iff_ne.mpr c3
  have c3b2 : (l0_0.length == l1_0.length) = false := by first | simpa using c3 | (simp at c3 ⊢; omega)
  obtain rfl := l13_ H
  go_enter Tryz.func112, Tryz.ntmps112
  go_wp2_with (first | ((with_reducible refine gate_dst (N := 2) rfl ?_); refine box_event ?hg (N := 2) ?hd (cs := #[.slice A0_0 l0_0.length c0_0]) (t := 47) ?hr ?_; (case hd => rfl); (case hg => rfl); (case hr => first | (go_simp; done) | (go_simp; rfl)); intro gb225 hg w19 hbox hb; have n0_ := mk0 (aN_ (by repeat (first | (with_reducible first | exact HB.out | apply aA_ | apply aB_ | apply aE_) | exact HB.out)) hb); have n1_ := mk0 (hbox); have n2_ := mk0 ((by rw [hg]; exact (aL_ (by repeat (first | (with_reducible first | exact HB.out | apply aA_ | apply aB_ | apply aE_) | exact HB.out))) : w.heap.size ≤ gb225)); have n3_ := mk0 ((by rw [hg]; exact (aL_ (by repeat (first | (with_reducible first | exact HB.out | apply aA_ | apply aB_ | apply aE_) | exact HB.out))) : w.heap.size ≤ gb225)); clear HB; have HB := n0_; have BK225 := n1_; have GW225 := n2_; have GE225 := n3_; clear n0_ n1_ n2_ n3_; clear hb hbox hg) | ((with_reducible refine gate_dst (N := 3) rfl ?_); refine box_event ?hg (N := 3) ?hd (cs := #[.slice A1_0 l1_0.length c1_0]) (t := 47) ?hr ?_; (case hd => rfl); (case hg => rfl); (case hr => first | (go_simp; done) | (go_simp; rfl)); intro gb226 hg w20 hbox hb; have n0_ := mk0 (aK_ (g := gb225) (o := .cells #[.slice A0_0 l0_0.length c0_0] 47 (0, 0)) (by (with_reducible repeat (first | refine aF_ ?_ _ | refine aH_ ?_ | refine aD_ ?_ _)); exact BK225.out) hb); have n1_ := mk0 (aN_ (by repeat (first | (with_reducible first | exact HB.out | apply aA_ | apply aB_ | apply aE_ | refine aG_ ?_ GE225.out) | exact HB.out)) hb); have n2_ := mk0 (hbox); have n3_ := mk0 ((by rw [hg]; exact (aL_ (by repeat (first | (with_reducible first | exact HB.out | apply aA_ | apply aB_ | apply aE_ | refine aG_ ?_ GE225.out) | exact HB.out))) : w.heap.size ≤ gb226)); have n4_ := mk0 ((by rw [hg]; exact (aL_ (by repeat (first | (with_reducible first | exact HB.out | apply aA_ | apply aB_ | apply aE_ | refine aG_ ?_ GE225.out) | exact HB.out))) : w.heap.size ≤ gb226)); have n5_ := mk0 ((by rw [hg]; exact Nat.ne_of_lt (blk_lt (g := gb225) (o := .cells #[.slice A0_0 l0_0.length c0_0] 47 (0, 0)) (by (with_reducible repeat (first | refine aF_ ?_ _ | refine aH_ ?_ | refine aD_ ?_ _)); exact BK225.out)) : gb225 ≠ gb226)); have n6_ := mk0 ((by rw [hg]; exact Nat.ne_of_gt (blk_lt (g := gb225) (o := .cells #[.slice A0_0 l0_0.length c0_0] 47 (0, 0)) (by (with_reducible repeat (first | refine aF_ ?_ _ | refine aH_ ?_ | refine aD_ ?_ _)); exact BK225.out)) : gb226 ≠ gb225)); clear BK225; clear HB; have BK225 := n0_; have HB := n1_; have BK226 := n2_; have GW226 := n3_; have GE226 := n4_; have NB225_226 := n5_; have NB226_225 := n6_; clear n0_ n1_ n2_ n3_ n4_ n5_ n6_; clear hb hbox hg; have hnb21 := NB225_226.out; have hnc21 := NB226_225.out; have hcz22_0 : w20.cell? ⟨gb225, 0, none⟩ = some (.slice A0_0 l0_0.length c0_0) := (aC_ BK225.out 0).trans rfl; have hfz22_0 := aJ_ BK225.out 0; have hcz23_0 : w20.cell? ⟨gb226, 0, none⟩ = some (.slice A1_0 l1_0.length c1_0) := (aC_ BK226.out 0).trans rfl; have hfz23_0 := aJ_ BK226.out 0))
  go_ret
  exact ⟨by first | rfl | (simp [aS_, aR_] <;> rfl) | (simp [*, aS_, aR_] <;> rfl), by repeat (first | (with_reducible first | exact HB.out | apply aA_ | apply aB_ | apply aE_ | refine aG_ ?_ GE225.out | refine aG_ ?_ GE226.out) | exact HB.out)⟩
mutual
def sorts_order.l0 : Nat → Int → List (S47) → Int → Int → Option (Int)
 | 0, _, _, _, _ => none
 | k + 1, x3, x7, x8, x9 => if x9 < x8 then (if 0 ≤ x9 then (if x9 < (x7.length : Int) then ((sorts_order.f k ((rd_T47 x7 x9).f0)).bind fun t233 => (sorts_order.l0 k (mx x3 (wrap64 (t233 + 1))) x7 x8 (wrap64 (x9 + 1)))) else (none)) else (none)) else (some x3)
def sorts_order.f : Nat → List (S47) → Option (Int)
 | 0, _ => none
 | k + 1, l0_0 => sorts_order.l0 k 0 l0_0 (l0_0.length : Int) 0
end
set_option maxHeartbeats 8000000 in
set_option maxRecDepth 100000 in
theorem sorts_order.calls (k : Nat) : ∀ (A0_0 : Option Addr) (c0_0 : Nat) (l0_0 : List (S47)) (r : Int) (w : World) (hr0_0 : Kd.C k47 w A0_0 l0_0.length l0_0) (hc0_0 : l0_0.length ≤ c0_0) (h : sorts_order.f k l0_0 = some r),
  Calls Tryz.prog 111 #[.agg #[.slice A0_0 l0_0.length c0_0]] w fun e w' => e = .returned (.int .i64 r) ∧ Below w.heap.size w w' := by
 induction k using Nat.strongRecOn with
 | _ k ih =>
 intro A0_0 c0_0 l0_0 r w hr0_0 hc0_0 h
 cases k with
 | zero => exact absurd h (by simp [sorts_order.f])
 | succ k =>
 simp only [sorts_order.f] at h
 have hu47 := Tryz.underlying47
 have HR0_0 := mk0 hr0_0
 have HC0_0 := mk0 hc0_0
 clear hr0_0 hc0_0
 have HB := mk0 (Below.refl w.heap.size w)
 have H : (sorts_order.l0 k 0 l0_0 (l0_0.length : Int) 0) = some r := h
 clear h
 have H' := mk0 H
 clear H
 go_enter Tryz.func111, Tryz.ntmps111
 go_wp2_with (first | ((with_reducible refine gate_dst (N := 1) rfl ?_); refine box_event ?hg (N := 1) ?hd (cs := #[.slice A0_0 l0_0.length c0_0]) (t := 47) ?hr ?_; (case hd => rfl); (case hg => rfl); (case hr => first | (go_simp; done) | (go_simp; rfl)); intro gb230 hg w2 hbox hb; have n0_ := mk0 (aN_ (by repeat (first | (with_reducible first | exact HB.out | apply aA_ | apply aB_ | apply aE_) | exact HB.out)) hb); have n1_ := mk0 (hbox); have n2_ := mk0 ((by rw [hg]; exact (aL_ (by repeat (first | (with_reducible first | exact HB.out | apply aA_ | apply aB_ | apply aE_) | exact HB.out))) : w.heap.size ≤ gb230)); have n3_ := mk0 ((by rw [hg]; exact (aL_ (by repeat (first | (with_reducible first | exact HB.out | apply aA_ | apply aB_ | apply aE_) | exact HB.out))) : w.heap.size ≤ gb230)); clear HB; have HB := n0_; have BK230 := n1_; have GW230 := n2_; have GE230 := n3_; clear n0_ n1_ n2_ n3_; clear hb hbox hg; have hcz3_0 : w2.cell? ⟨gb230, 0, none⟩ = some (.slice A0_0 l0_0.length c0_0) := (aC_ BK230.out 0).trans rfl; have hfz3_0 := aJ_ BK230.out 0))
 go_loopg [3, 9] k (fun kq v3 v9 w' => ∃ (x3_1 : Int) (x9_1 : Int), v3 = .int .i64 x3_1 ∧ v9 = .int .i64 x9_1 ∧ Aside0 (sorts_order.l0 kq x3_1 l0_0 (l0_0.length : Int) x9_1 = some r) ∧ Aside0 (kq ≤ k) ∧ Aside0 (w'.heap[gb230]? = some (.cells #[(.slice A0_0 l0_0.length c0_0)] 47 (0, 0))) ∧ Aside0 (Below w.heap.size w w'))
 case atStart => exact ⟨(0), (0), (by first | rfl | (simp; done) | (simp [*]; done)), (by first | rfl | (simp; done) | (simp [*]; done)), H', ⟨Nat.le_refl _⟩, ⟨by (with_reducible repeat (first | refine aF_ ?_ _ | refine aH_ ?_ | refine aD_ ?_ _)); exact BK230.out⟩, ⟨by repeat (first | (with_reducible first | exact HB.out | apply aA_ | apply aB_ | apply aE_ | refine aG_ ?_ GE230.out) | exact HB.out)⟩⟩
 case round =>
  clear H'
  try clear c1
  try clear p2
  try clear hcz3_0
  try clear hfz3_0
  obtain ⟨x3_1, x9_1, rfl, rfl, HA, HK1, BK230, HB⟩ := hrel
  cases gk with
  | zero => exact absurd HA.out (by simp [sorts_order.l0])
  | succ k1 =>
   have H := HA.out
   clear HA
   simp only [sorts_order.l0] at H
   by_cases c4 : x9_1 < (l0_0.length : Int)
   ·rw [if_pos c4] at H
    have c4b0 : decide (x9_1 < (l0_0.length : Int)) = true := l2_ c4
    clear c4
    by_cases c5 : 0 ≤ x9_1
    ·rw [if_pos c5] at H
     have c5b0 : decide (0 ≤ x9_1) = true := l2_ c5
     clear c5
     by_cases c6 : x9_1 < (l0_0.length : Int)
     ·rw [if_pos c6] at H
      have c6b0 : decide (x9_1 < (l0_0.length : Int)) = true := l2_ c6
      clear c6
      replace H := Option.bind_eq_some_iff.mp H
      obtain ⟨t233, A70, H⟩ := H
      replace H : (sorts_order.l0 k1 (mx x3_1 (wrap64 (t233 + 1))) l0_0 (l0_0.length : Int) (wrap64 (x9_1 + 1))) = some r := H
      have A7 := mk0 A70
      clear A70
      obtain ⟨ji8, hji8⟩ : ∃ j_ : Int, (mx x3_1 (wrap64 (t233 + 1))) = j_ := ⟨_, rfl⟩
      replace H : (sorts_order.l0 k1 ji8 l0_0 (l0_0.length : Int) (wrap64 (x9_1 + 1))) = some r := by first | (rw [hji8] at H; exact H) | (simp only [hji8] at H ⊢; exact H)
      (try rw [hji8] at A7)
      have hji8_ : (if x3_1 < (wrap64 (t233 + 1)) then (wrap64 (t233 + 1)) else x3_1) = ji8 := hji8
      have H' := mk0 H
      clear H
      have p231 : 0 ≤ (x9_1 : Int) := l0_ (by first | (with_reducible assumption) | assumption)
      have q231 : x9_1 < (l0_0.length : Int) := l0_ (by first | (with_reducible assumption) | assumption)
      obtain ⟨ad231, A231_0, c231_0, e231, hx231_0, hl231_0, hi231_0⟩ := at_T47 HR0_0.out x9_1 p231 q231
      cases e231
      replace hx231_0 := (HB.out.cell (l1_ w _ hx231_0)).trans hx231_0
      have HR231_0 := mk0 hi231_0
      have HC231_0 := mk0 hl231_0
      clear hi231_0 hl231_0
      replace p231 := eq_true p231
      replace q231 := eq_true q231
      go_wp2_with (first | ((with_reducible refine gate_dst (N := 5) rfl ?_); refine box_event ?hg (N := 5) ?hd (cs := #[.slice none 0 0]) (t := 47) ?hr ?_; (case hd => rfl); (case hg => rfl); (case hr => first | (go_simp; done) | (go_simp; rfl)); intro gb232 hg w9 hbox hb; have n0_ := mk0 (aK_ (g := gb230) (o := .cells #[.slice (some ad231) l0_0.length c0_0] 47 (0, 0)) (by (with_reducible repeat (first | refine aF_ ?_ _ | refine aH_ ?_ | refine aD_ ?_ _)); exact BK230.out) hb); have n1_ := mk0 (aN_ (by repeat (first | (with_reducible first | exact HB.out | apply aA_ | apply aB_ | apply aE_ | refine aG_ ?_ GE230.out) | exact HB.out)) hb); have n2_ := mk0 (hbox); have n3_ := mk0 ((by rw [hg]; exact (aL_ (by repeat (first | (with_reducible first | exact HB.out | apply aA_ | apply aB_ | apply aE_ | refine aG_ ?_ GE230.out) | exact HB.out))) : w.heap.size ≤ gb232)); have n4_ := mk0 ((by rw [hg]; exact (aL_ (by repeat (first | (with_reducible first | exact HB.out | apply aA_ | apply aB_ | apply aE_ | refine aG_ ?_ GE230.out) | exact HB.out))) : w.heap.size ≤ gb232)); have n5_ := mk0 ((by rw [hg]; exact Nat.ne_of_lt (blk_lt (g := gb230) (o := .cells #[.slice (some ad231) l0_0.length c0_0] 47 (0, 0)) (by (with_reducible repeat (first | refine aF_ ?_ _ | refine aH_ ?_ | refine aD_ ?_ _)); exact BK230.out)) : gb230 ≠ gb232)); have n6_ := mk0 ((by rw [hg]; exact Nat.ne_of_gt (blk_lt (g := gb230) (o := .cells #[.slice (some ad231) l0_0.length c0_0] 47 (0, 0)) (by (with_reducible repeat (first | refine aF_ ?_ _ | refine aH_ ?_ | refine aD_ ?_ _)); exact BK230.out)) : gb232 ≠ gb230)); clear BK230; clear HB; have BK230 := n0_; have HB := n1_; have BK232 := n2_; have GW232 := n3_; have GE232 := n4_; have NB230_232 := n5_; have NB232_230 := n6_; clear n0_ n1_ n2_ n3_ n4_ n5_ n6_; clear hb hbox hg; have hnb10 := NB232_230.out; have hnc10 := NB230_232.out; have hcz11_0 : w9.cell? ⟨gb232, 0, none⟩ = some (.slice none 0 0) := (aC_ BK232.out 0).trans rfl; have hfz11_0 := aJ_ BK232.out 0) | ((with_reducible refine gate_callee (f := 111) rfl ?_); refine goesL_ (some 15) rfl rfl Tryz.func111 (by kernel_rfl) rfl #[.agg #[.slice A231_0 ((rd_T47 l0_0 x9_1).f0).length c231_0]] rfl (by (try simp only [List.map_toArray, List.map_cons, List.map_nil]); first | done | rfl | (simp only [l9_, List.length_take]; rfl)) ?_; (with_reducible refine (ih k1 (by have := HK1.out; omega) _ _ ((rd_T47 l0_0 x9_1).f0) t233 _ ?side1 ?side2 A7.out).mono ?_); (case side1 => exact Kd.C_below HR231_0.out (by repeat (first | (with_reducible first | exact HB.out | apply aA_ | apply aB_ | apply aE_ | refine aG_ ?_ GE230.out | refine aG_ ?_ GE232.out) | exact HB.out))); (case side2 => exact HC231_0.out); rintro e w12 ⟨rfl, hb⟩; refine ⟨_, rfl, ?_⟩; have n0_ := mk0 (aK_ (g := gb230) (o := .cells #[.slice (some ad231) l0_0.length c0_0] 47 (0, 0)) (by (with_reducible repeat (first | refine aF_ ?_ _ | refine aH_ ?_ | refine aD_ ?_ _)); refine aT_ ?_ NB230_232.out _; (with_reducible repeat (first | refine aF_ ?_ _ | refine aH_ ?_ | refine aD_ ?_ _)); exact BK230.out) hb); have n1_ := mk0 (aK_ (g := gb232) (o := .cells #[.slice A231_0 ((rd_T47 l0_0 x9_1).f0).length c231_0] 47 (0, 0)) (by (with_reducible repeat (first | refine aF_ ?_ _ | refine aH_ ?_ | refine aD_ ?_ _)); refine blk_put (cs := #[.slice none 0 0]) ?_ 0 _ rfl; (with_reducible repeat (first | refine aF_ ?_ _ | refine aH_ ?_ | refine aD_ ?_ _)); exact BK232.out) hb); have n2_ := mk0 (aN_ (by repeat (first | (with_reducible first | exact HB.out | apply aA_ | apply aB_ | apply aE_ | refine aG_ ?_ GE230.out | refine aG_ ?_ GE232.out) | exact HB.out)) hb); clear BK230; clear BK232; clear HB; have BK230 := n0_; have BK232 := n1_; have HB := n2_; clear n0_ n1_ n2_; (try clear hb); (try clear hb2); (try clear hk); (try clear hi)))
      go_roundg k1
      case measure => have := HK1.out; omega
      case rel => exact ⟨(ji8), (wrap64 (x9_1 + 1)), (by first | rfl | (simp; done) | (simp only [← hji8] <;> (first | rfl | simp)) | (simp [*]; done)), (by first | rfl | (simp; done) | (simp [*]; done)), H', ⟨by have := HK1.out; omega⟩, ⟨by (with_reducible repeat (first | refine aF_ ?_ _ | refine aH_ ?_ | refine aD_ ?_ _)); exact BK230.out⟩, ⟨by repeat (first | (with_reducible first | exact HB.out | apply aA_ | apply aB_ | apply aE_ | refine aG_ ?_ GE230.out | refine aG_ ?_ GE232.out) | exact HB.out)⟩⟩
     ·rw [if_neg c6] at H
      exact absurd H (by simp)
    ·rw [if_neg c5] at H
     exact absurd H (by simp)
   ·rw [if_neg c4] at H
    have c4b0 : decide (x9_1 < (l0_0.length : Int)) = false := l3_ c4
    clear c4
    obtain rfl := l13_ H
    go_wp2
    go_ret
    exact ⟨by first | rfl | (simp [aS_, aR_] <;> rfl) | (simp [*, aS_, aR_] <;> rfl), by repeat (first | (with_reducible first | exact HB.out | apply aA_ | apply aB_ | apply aE_ | refine aG_ ?_ GE230.out) | exact HB.out)⟩
mutual
def term_Name.j0 : Nat → ByteArray → Bool → Option (Bool)
 | 0, _, _ => none
 | k + 1, x0, x22 => if x22 = true then (some false) else (term_Name.l0 k x0 (x0.size : Int) 0)
def term_Name.l0 : Nat → ByteArray → Int → Int → Option (Bool)
 | 0, _, _, _ => none
 | k + 1, x0, x24, x25 => if x25 < x24 then (if 0 ≤ x25 then (if x25 < (x0.size : Int) then (if (bt x0 x25) < 97 then (if (bt x0 x25) < 48 then (if (bt x0 x25) = 95 then (term_Name.l0 k x0 x24 (wrap64 (x25 + 1))) else (some false)) else (if (bt x0 x25) > 57 then (if (bt x0 x25) = 95 then (term_Name.l0 k x0 x24 (wrap64 (x25 + 1))) else (some false)) else (term_Name.l0 k x0 x24 (wrap64 (x25 + 1))))) else (if (bt x0 x25) > 122 then (if (bt x0 x25) < 48 then (if (bt x0 x25) = 95 then (term_Name.l0 k x0 x24 (wrap64 (x25 + 1))) else (some false)) else (if (bt x0 x25) > 57 then (if (bt x0 x25) = 95 then (term_Name.l0 k x0 x24 (wrap64 (x25 + 1))) else (some false)) else (term_Name.l0 k x0 x24 (wrap64 (x25 + 1))))) else (term_Name.l0 k x0 x24 (wrap64 (x25 + 1))))) else (none)) else (none)) else (some true)
end
def term_Name.f (k : Nat) (a0 : ByteArray) : Option (Bool) := if (a0.size : Int) = 0 then (term_Name.j0 k a0 true) else (if (a0.size : Int) > 24 then (term_Name.j0 k a0 true) else (if 0 < (a0.size : Int) then (if (bt a0 0) < 97 then (term_Name.j0 k a0 true) else (term_Name.j0 k a0 (decide ((bt a0 0) > 122)))) else (none)))
set_option maxHeartbeats 8000000 in
set_option maxRecDepth 100000 in
theorem term_Name.calls (k : Nat) (a0 : ByteArray) (r : Bool) (w : World) (h : term_Name.f k a0 = some r) :
  Calls Tryz.prog 39 #[.string a0] w fun e w' => e = .returned (.bool r) ∧ Drawn0 w w' := by
 have H : (if (a0.size : Int) = 0 then (term_Name.j0 k a0 true) else (if (a0.size : Int) > 24 then (term_Name.j0 k a0 true) else (if 0 < (a0.size : Int) then (if (bt a0 0) < 97 then (term_Name.j0 k a0 true) else (term_Name.j0 k a0 (decide ((bt a0 0) > 122)))) else (none)))) = some r := h
 clear h
 have HC2 := mk0 H
 clear H
 go_enter Tryz.func39, Tryz.ntmps39
 go_upto_region 1 with (fail)
 go_cut [22] (fun v22 wc => ∃ (kq : Nat) (x22_1 : Bool), v22 = .bool x22_1 ∧ Aside0 (term_Name.j0 kq a0 x22_1 = some r) ∧ Aside0 (kq ≤ k) ∧ Drawn0 w wc)
 case first =>
  have H := HC2.out
  clear HC2
  by_cases c3 : (a0.size : Int) = 0
  ·rw [if_pos c3] at H
   have c3b0 : ((a0.size : Int) == 0) = true := beq_iff_eq.mpr c3
   have c3b1 : ((a0.size : Int) != 0) = false := bne_eq_false_iff_eq.mpr c3
   clear c3
   (first | rw [c3b0] | (simp only [i64_w, i32_w]; rw [c3b0]) | skip)
   have H' := mk0 H
   clear H
   go_wp2
   go_meet
   case rel => exact ⟨_, (true), (by first | rfl | (simp; done) | (simp [*]; done)), H', ⟨by first | omega | exact Nat.le_refl _⟩, by repeat (first | exact Drawn0.refl _ | apply Drawn0.step)⟩
  ·rw [if_neg c3] at H
   have c3b0 : ((a0.size : Int) == 0) = false := beq_eq_false_iff_ne.mpr c3
   have c3b1 : ((a0.size : Int) != 0) = true := bne_iff_ne.mpr c3
   (first | rw [c3b0] | (simp only [i64_w, i32_w]; rw [c3b0]) | skip)
   by_cases c4 : (a0.size : Int) > 24
   ·rw [if_pos c4] at H
    have c4b0 : decide (24 < (a0.size : Int)) = true := l2_ c4
    have c4b1 : decide (24 < a0.size) = true := l2_ (by omega)
    clear c4
    have H' := mk0 H
    clear H
    go_wp2
    go_meet
    case rel => exact ⟨_, (true), (by first | rfl | (simp; done) | (simp [*]; done)), H', ⟨by first | omega | exact Nat.le_refl _⟩, by repeat (first | exact Drawn0.refl _ | apply Drawn0.step)⟩
   ·rw [if_neg c4] at H
    have c4b0 : decide (24 < (a0.size : Int)) = false := l3_ c4
    have c4b1 : decide (24 < a0.size) = false := l3_ (by omega)
    clear c4
    by_cases c5 : 0 < (a0.size : Int)
    ·rw [if_pos c5] at H
     have c5b0 : decide (0 < (a0.size : Int)) = true := l2_ c5
     have c5b1 : decide (0 < a0.size) = true := l2_ (by omega)
     clear c5
     by_cases c7 : (bt a0 0) < 97
     ·rw [if_pos c7] at H
      have c7b0 : decide ((bt a0 0) < 97) = true := l2_ c7
      clear c7
      have H' := mk0 H
      clear H
      have p6 : 0 ≤ (0 : Int) := (by omega)
      have q6 : 0 < a0.size := (by have : (0 : Int) < (a0.size : Int) := l0_ (by first | (with_reducible assumption) | assumption); omega)
      have hx6 : ∀ h : 0 < a0.size, ((a0[0]'h).toNat : Int) = bt a0 0 := bt_at a0 0
      clear p6
      have qi6 : (0 < (a0.size : Int)) = True := eq_true (l0_ (by first | (with_reducible assumption) | assumption))
      replace q6 := eq_true q6
      go_wp2
      go_meet
      case rel => exact ⟨_, (true), (by first | rfl | (simp; done) | (simp [*]; done)), H', ⟨by first | omega | exact Nat.le_refl _⟩, by repeat (first | exact Drawn0.refl _ | apply Drawn0.step)⟩
     ·rw [if_neg c7] at H
      have c7b0 : decide ((bt a0 0) < 97) = false := l3_ c7
      clear c7
      have H' := mk0 H
      clear H
      have p6 : 0 ≤ (0 : Int) := (by omega)
      have q6 : 0 < a0.size := (by have : (0 : Int) < (a0.size : Int) := l0_ (by first | (with_reducible assumption) | assumption); omega)
      have hx6 : ∀ h : 0 < a0.size, ((a0[0]'h).toNat : Int) = bt a0 0 := bt_at a0 0
      clear p6
      have qi6 : (0 < (a0.size : Int)) = True := eq_true (l0_ (by first | (with_reducible assumption) | assumption))
      replace q6 := eq_true q6
      have p8 : 0 ≤ (0 : Int) := (by omega)
      have q8 : 0 < a0.size := (by have : (0 : Int) < (a0.size : Int) := l0_ (by first | (with_reducible assumption) | assumption); omega)
      have hx8 : ∀ h : 0 < a0.size, ((a0[0]'h).toNat : Int) = bt a0 0 := bt_at a0 0
      clear p8
      have qi8 : (0 < (a0.size : Int)) = True := eq_true (l0_ (by first | (with_reducible assumption) | assumption))
      replace q8 := eq_true q8
      go_wp2
      go_meet
      case rel => exact ⟨_, (decide ((bt a0 0) > 122)), (by first | rfl | (simp; done) | (simp [*]; done)), H', ⟨by first | omega | exact Nat.le_refl _⟩, by repeat (first | exact Drawn0.refl _ | apply Drawn0.step)⟩
    ·rw [if_neg c5] at H
     exact absurd H (by simp)
 case rest =>
  clear HC2
  try clear p2
  try clear c3
  try clear c3b0
  try clear c3b1
  try clear c4
  try clear c4b0
  try clear c4b1
  try clear c5
  try clear c5b0
  try clear c5b1
  try clear p6
  try clear q6
  try clear hx6
  try clear qi6
  try clear c7
  try clear c7b0
  try clear p8
  try clear q8
  try clear hx8
  try clear qi8
  try clear p6
  try clear p8
  try clear q6
  try clear q8
  obtain ⟨kq, x22_1, rfl, HA, HJ1, ⟨mc1, rfl⟩⟩ := hcut
  cases kq with
  | zero => exact absurd HA.out (by simp [term_Name.j0])
  | succ kj1 =>
   have H := HA.out
   clear HA
   simp only [term_Name.j0] at H
   by_cases c9 : x22_1 = true
   ·subst c9
    have H1 : (some false) = some r := by rw [if_pos rfl] at H; exact H
    clear H
    have H := H1
    clear H1
    obtain rfl := l13_ H
    go_wp2
    go_ret
    exact ⟨by first | rfl | (simp; done) | (simp [*]; done), by repeat (first | exact Drawn0.refl _ | apply Drawn0.step)⟩
   ·replace c9 := Bool.eq_false_iff.mpr c9
    subst c9
    have H1 : (term_Name.l0 kj1 a0 (a0.size : Int) 0) = some r := by rw [if_neg (show ¬ (false = true) by decide)] at H; exact H
    clear H
    have H := H1
    clear H1
    have H' := mk0 H
    clear H
    go_wp2
    go_loopg [25] kj1 (fun kq v25 w' => ∃ (x25_2 : Int), v25 = .int .i64 x25_2 ∧ Aside0 (term_Name.l0 kq a0 (a0.size : Int) x25_2 = some r) ∧ Aside0 (kq ≤ kj1) ∧ Drawn0 w w')
    case atStart => exact ⟨(0), (by first | rfl | (simp; done) | (simp [*]; done)), H', ⟨Nat.le_refl _⟩, by repeat (first | exact Drawn0.refl _ | apply Drawn0.step)⟩
    case round =>
     clear H'
     try clear c1
     try clear p2
     try clear c3
     try clear c3b0
     try clear c3b1
     try clear c4
     try clear c4b0
     try clear c4b1
     try clear c5
     try clear c5b0
     try clear c5b1
     try clear p6
     try clear q6
     try clear hx6
     try clear qi6
     try clear c7
     try clear c7b0
     try clear p8
     try clear q8
     try clear hx8
     try clear qi8
     try clear c9
     try clear p2
     try clear p6
     try clear p8
     try clear q6
     try clear q8
     obtain ⟨x25_2, rfl, HA, HK2, ⟨m2, rfl⟩⟩ := hrel
     cases gk with
     | zero => exact absurd HA.out (by simp [term_Name.l0])
     | succ k2 =>
      have H := HA.out
      clear HA
      simp only [term_Name.l0] at H
      by_cases c10 : x25_2 < (a0.size : Int)
      ·rw [if_pos c10] at H
       have c10b0 : decide (x25_2 < (a0.size : Int)) = true := l2_ c10
       clear c10
       by_cases c11 : 0 ≤ x25_2
       ·rw [if_pos c11] at H
        have c11b0 : decide (0 ≤ x25_2) = true := l2_ c11
        clear c11
        by_cases c12 : x25_2 < (a0.size : Int)
        ·rw [if_pos c12] at H
         have c12b0 : decide (x25_2 < (a0.size : Int)) = true := l2_ c12
         clear c12
         by_cases c14 : (bt a0 x25_2) < 97
         ·rw [if_pos c14] at H
          have c14b0 : decide ((bt a0 x25_2) < 97) = true := l2_ c14
          clear c14
          by_cases c15 : (bt a0 x25_2) < 48
          ·rw [if_pos c15] at H
           have c15b0 : decide ((bt a0 x25_2) < 48) = true := l2_ c15
           clear c15
           by_cases c16 : (bt a0 x25_2) = 95
           ·rw [if_pos c16] at H
            have c16b0 : ((bt a0 x25_2) == 95) = true := beq_iff_eq.mpr c16
            have c16b1 : ((bt a0 x25_2) != 95) = false := bne_eq_false_iff_eq.mpr c16
            clear c16
            have H' := mk0 H
            clear H
            have p13 : 0 ≤ (x25_2 : Int) := l0_ (by first | (with_reducible assumption) | assumption)
            have q13 : x25_2 < (a0.size : Int) := l0_ (by first | (with_reducible assumption) | assumption)
            have hx13 := bt_at a0 x25_2
            replace p13 := eq_true p13
            replace q13 := eq_true q13
            go_wp2
            go_roundg k2
            case measure => have := HJ1.out; have := HK2.out; omega
            case rel => exact ⟨(wrap64 (x25_2 + 1)), (by first | rfl | (simp; done) | (simp [*]; done)), H', ⟨by have := HJ1.out; have := HK2.out; omega⟩, by repeat (first | exact Drawn0.refl _ | apply Drawn0.step)⟩
           ·rw [if_neg c16] at H
            have c16b0 : ((bt a0 x25_2) == 95) = false := beq_eq_false_iff_ne.mpr c16
            have c16b1 : ((bt a0 x25_2) != 95) = true := bne_iff_ne.mpr c16
            obtain rfl := l13_ H
            have p13 : 0 ≤ (x25_2 : Int) := l0_ (by first | (with_reducible assumption) | assumption)
            have q13 : x25_2 < (a0.size : Int) := l0_ (by first | (with_reducible assumption) | assumption)
            have hx13 := bt_at a0 x25_2
            replace p13 := eq_true p13
            replace q13 := eq_true q13
            go_wp2
            go_ret
            exact ⟨by first | rfl | (simp; done) | (simp [*]; done), by repeat (first | exact Drawn0.refl _ | apply Drawn0.step)⟩
          ·rw [if_neg c15] at H
           have c15b0 : decide ((bt a0 x25_2) < 48) = false := l3_ c15
           clear c15
           by_cases c17 : (bt a0 x25_2) > 57
           ·rw [if_pos c17] at H
            have c17b0 : decide (57 < (bt a0 x25_2)) = true := l2_ c17
            clear c17
            by_cases c18 : (bt a0 x25_2) = 95
            ·rw [if_pos c18] at H
             have c18b0 : ((bt a0 x25_2) == 95) = true := beq_iff_eq.mpr c18
             have c18b1 : ((bt a0 x25_2) != 95) = false := bne_eq_false_iff_eq.mpr c18
             clear c18
             have H' := mk0 H
             clear H
             have p13 : 0 ≤ (x25_2 : Int) := l0_ (by first | (with_reducible assumption) | assumption)
             have q13 : x25_2 < (a0.size : Int) := l0_ (by first | (with_reducible assumption) | assumption)
             have hx13 := bt_at a0 x25_2
             replace p13 := eq_true p13
             replace q13 := eq_true q13
             go_wp2
             go_roundg k2
             case measure => have := HJ1.out; have := HK2.out; omega
             case rel => exact ⟨(wrap64 (x25_2 + 1)), (by first | rfl | (simp; done) | (simp [*]; done)), H', ⟨by have := HJ1.out; have := HK2.out; omega⟩, by repeat (first | exact Drawn0.refl _ | apply Drawn0.step)⟩
            ·rw [if_neg c18] at H
             have c18b0 : ((bt a0 x25_2) == 95) = false := beq_eq_false_iff_ne.mpr c18
             have c18b1 : ((bt a0 x25_2) != 95) = true := bne_iff_ne.mpr c18
             obtain rfl := l13_ H
             have p13 : 0 ≤ (x25_2 : Int) := l0_ (by first | (with_reducible assumption) | assumption)
             have q13 : x25_2 < (a0.size : Int) := l0_ (by first | (with_reducible assumption) | assumption)
             have hx13 := bt_at a0 x25_2
             replace p13 := eq_true p13
             replace q13 := eq_true q13
             go_wp2
             go_ret
             exact ⟨by first | rfl | (simp; done) | (simp [*]; done), by repeat (first | exact Drawn0.refl _ | apply Drawn0.step)⟩
           ·rw [if_neg c17] at H
            have c17b0 : decide (57 < (bt a0 x25_2)) = false := l3_ c17
            clear c17
            have H' := mk0 H
            clear H
            have p13 : 0 ≤ (x25_2 : Int) := l0_ (by first | (with_reducible assumption) | assumption)
            have q13 : x25_2 < (a0.size : Int) := l0_ (by first | (with_reducible assumption) | assumption)
            have hx13 := bt_at a0 x25_2
            replace p13 := eq_true p13
            replace q13 := eq_true q13
            go_wp2
            go_roundg k2
            case measure => have := HJ1.out; have := HK2.out; omega
            case rel => exact ⟨(wrap64 (x25_2 + 1)), (by first | rfl | (simp; done) | (simp [*]; done)), H', ⟨by have := HJ1.out; have := HK2.out; omega⟩, by repeat (first | exact Drawn0.refl _ | apply Drawn0.step)⟩
         ·rw [if_neg c14] at H
          have c14b0 : decide ((bt a0 x25_2) < 97) = false := l3_ c14
          clear c14
          by_cases c19 : (bt a0 x25_2) > 122
          ·rw [if_pos c19] at H
           have c19b0 : decide (122 < (bt a0 x25_2)) = true := l2_ c19
           clear c19
           by_cases c20 : (bt a0 x25_2) < 48
           ·rw [if_pos c20] at H
            have c20b0 : decide ((bt a0 x25_2) < 48) = true := l2_ c20
            clear c20
            by_cases c21 : (bt a0 x25_2) = 95
            ·rw [if_pos c21] at H
             have c21b0 : ((bt a0 x25_2) == 95) = true := beq_iff_eq.mpr c21
             have c21b1 : ((bt a0 x25_2) != 95) = false := bne_eq_false_iff_eq.mpr c21
             clear c21
             have H' := mk0 H
             clear H
             have p13 : 0 ≤ (x25_2 : Int) := l0_ (by first | (with_reducible assumption) | assumption)
             have q13 : x25_2 < (a0.size : Int) := l0_ (by first | (with_reducible assumption) | assumption)
             have hx13 := bt_at a0 x25_2
             replace p13 := eq_true p13
             replace q13 := eq_true q13
             go_wp2
             go_roundg k2
             case measure => have := HJ1.out; have := HK2.out; omega
             case rel => exact ⟨(wrap64 (x25_2 + 1)), (by first | rfl | (simp; done) | (simp [*]; done)), H', ⟨by have := HJ1.out; have := HK2.out; omega⟩, by repeat (first | exact Drawn0.refl _ | apply Drawn0.step)⟩
            ·rw [if_neg c21] at H
             have c21b0 : ((bt a0 x25_2) == 95) = false := beq_eq_false_iff_ne.mpr c21
             have c21b1 : ((bt a0 x25_2) != 95) = true := bne_iff_ne.mpr c21
             obtain rfl := l13_ H
             have p13 : 0 ≤ (x25_2 : Int) := l0_ (by first | (with_reducible assumption) | assumption)
             have q13 : x25_2 < (a0.size : Int) := l0_ (by first | (with_reducible assumption) | assumption)
             have hx13 := bt_at a0 x25_2
             replace p13 := eq_true p13
             replace q13 := eq_true q13
             go_wp2
             go_ret
             exact ⟨by first | rfl | (simp; done) | (simp [*]; done), by repeat (first | exact Drawn0.refl _ | apply Drawn0.step)⟩
           ·rw [if_neg c20] at H
            have c20b0 : decide ((bt a0 x25_2) < 48) = false := l3_ c20
            clear c20
            by_cases c22 : (bt a0 x25_2) > 57
            ·rw [if_pos c22] at H
             have c22b0 : decide (57 < (bt a0 x25_2)) = true := l2_ c22
             clear c22
             by_cases c23 : (bt a0 x25_2) = 95
             ·rw [if_pos c23] at H
              have c23b0 : ((bt a0 x25_2) == 95) = true := beq_iff_eq.mpr c23
              have c23b1 : ((bt a0 x25_2) != 95) = false := bne_eq_false_iff_eq.mpr c23
              clear c23
              have H' := mk0 H
              clear H
              have p13 : 0 ≤ (x25_2 : Int) := l0_ (by first | (with_reducible assumption) | assumption)
              have q13 : x25_2 < (a0.size : Int) := l0_ (by first | (with_reducible assumption) | assumption)
              have hx13 := bt_at a0 x25_2
              replace p13 := eq_true p13
              replace q13 := eq_true q13
              go_wp2
              go_roundg k2
              case measure => have := HJ1.out; have := HK2.out; omega
              case rel => exact ⟨(wrap64 (x25_2 + 1)), (by first | rfl | (simp; done) | (simp [*]; done)), H', ⟨by have := HJ1.out; have := HK2.out; omega⟩, by repeat (first | exact Drawn0.refl _ | apply Drawn0.step)⟩
             ·rw [if_neg c23] at H
              have c23b0 : ((bt a0 x25_2) == 95) = false := beq_eq_false_iff_ne.mpr c23
              have c23b1 : ((bt a0 x25_2) != 95) = true := bne_iff_ne.mpr c23
              obtain rfl := l13_ H
              have p13 : 0 ≤ (x25_2 : Int) := l0_ (by first | (with_reducible assumption) | assumption)
              have q13 : x25_2 < (a0.size : Int) := l0_ (by first | (with_reducible assumption) | assumption)
              have hx13 := bt_at a0 x25_2
              replace p13 := eq_true p13
              replace q13 := eq_true q13
              go_wp2
              go_ret
              exact ⟨by first | rfl | (simp; done) | (simp [*]; done), by repeat (first | exact Drawn0.refl _ | apply Drawn0.step)⟩
            ·rw [if_neg c22] at H
             have c22b0 : decide (57 < (bt a0 x25_2)) = false := l3_ c22
             clear c22
             have H' := mk0 H
             clear H
             have p13 : 0 ≤ (x25_2 : Int) := l0_ (by first | (with_reducible assumption) | assumption)
             have q13 : x25_2 < (a0.size : Int) := l0_ (by first | (with_reducible assumption) | assumption)
             have hx13 := bt_at a0 x25_2
             replace p13 := eq_true p13
             replace q13 := eq_true q13
             go_wp2
             go_roundg k2
             case measure => have := HJ1.out; have := HK2.out; omega
             case rel => exact ⟨(wrap64 (x25_2 + 1)), (by first | rfl | (simp; done) | (simp [*]; done)), H', ⟨by have := HJ1.out; have := HK2.out; omega⟩, by repeat (first | exact Drawn0.refl _ | apply Drawn0.step)⟩
          ·rw [if_neg c19] at H
           have c19b0 : decide (122 < (bt a0 x25_2)) = false := l3_ c19
           clear c19
           have H' := mk0 H
           clear H
           have p13 : 0 ≤ (x25_2 : Int) := l0_ (by first | (with_reducible assumption) | assumption)
           have q13 : x25_2 < (a0.size : Int) := l0_ (by first | (with_reducible assumption) | assumption)
           have hx13 := bt_at a0 x25_2
           replace p13 := eq_true p13
           replace q13 := eq_true q13
           go_wp2
           go_roundg k2
           case measure => have := HJ1.out; have := HK2.out; omega
           case rel => exact ⟨(wrap64 (x25_2 + 1)), (by first | rfl | (simp; done) | (simp [*]; done)), H', ⟨by have := HJ1.out; have := HK2.out; omega⟩, by repeat (first | exact Drawn0.refl _ | apply Drawn0.step)⟩
        ·rw [if_neg c12] at H
         exact absurd H (by simp)
       ·rw [if_neg c11] at H
        exact absurd H (by simp)
      ·rw [if_neg c10] at H
       have c10b0 : decide (x25_2 < (a0.size : Int)) = false := l3_ c10
       clear c10
       obtain rfl := l13_ H
       go_wp2
       go_ret
       exact ⟨by first | rfl | (simp; done) | (simp [*]; done), by repeat (first | exact Drawn0.refl _ | apply Drawn0.step)⟩
end Go.Proofs.YthflpbgloeimfaaGreatDoor.Q
namespace Go.Proofs.YthflpbgloeimfaaGreatDoor.Q
open Go.RowKit Go.Proofs.YthflpbgloeimfaaGreatDoorW.PrintWords Go.Proofs.YthflpbgloeimfaaGreatDoorW.PrintLast Go.Proofs.YthflpbgloeimfaaGreatDoorW.PrintMore
attribute [local go_sem] max2_int min2_int max_two min_two max_three min_three max_four min_four
attribute [local go_sem high] eqA71
set_option linter.unusedVariables false
set_option linter.unusedSimpArgs false
mutual
def term_same.j0 : Nat → Bool → Int → Int → List (S50) → Int → Int → List (S50) → Option (Bool)
 | 0, _, _, _, _, _, _, _ => none
 | k + 1, x26, x243000, x243001, x243002, x244000, x244001, x244002 => if x26 = true then (some false) else (term_same.l0 k (x243002.length : Int) 0 x243000 x243001 x243002 x244000 x244001 x244002)
def term_same.l0 : Nat → Int → Int → Int → Int → List (S50) → Int → Int → List (S50) → Option (Bool)
 | 0, _, _, _, _, _, _, _, _ => none
 | k + 1, x29, x30, x243000, x243001, x243002, x244000, x244001, x244002 => if x30 < x29 then (if 0 ≤ x30 then (if x30 < (x243002.length : Int) then (if x30 < (x244002.length : Int) then ((term_same.f k ((rd_T50 x243002 x30).f0) ((rd_T50 x243002 x30).f1) ((rd_T50 x243002 x30).f2) ((rd_T50 x244002 x30).f0) ((rd_T50 x244002 x30).f1) ((rd_T50 x244002 x30).f2)).bind fun t246 => (if t246 = true then (term_same.l0 k x29 (wrap64 (x30 + 1)) x243000 x243001 x243002 x244000 x244001 x244002) else (some false))) else (none)) else (none)) else (none)) else (some true)
def term_same.f : Nat → Int → Int → List (S50) → Int → Int → List (S50) → Option (Bool)
 | 0, _, _, _, _, _, _ => none
 | k + 1, a0_0, a0_1, l0_2, a1_0, a1_1, l1_2 => if a0_0 = a1_0 then (if a0_1 = a1_1 then (term_same.j0 k ((l0_2.length : Int) != (l1_2.length : Int)) a0_0 a0_1 l0_2 a1_0 a1_1 l1_2) else (term_same.j0 k true a0_0 a0_1 l0_2 a1_0 a1_1 l1_2)) else (term_same.j0 k true a0_0 a0_1 l0_2 a1_0 a1_1 l1_2)
end
def term_same.T6 : Bool × List (List Nat × List Nat) := (true, [([], []), ([0], [0]), ([], []), ([1, 2], [1, 2]), ([3], [3]), ([], []), ([5], [5]), ([], []), ([6, 7], [6, 7]), ([8], [8]), ([4, 9], [4, 9]), ([10], [10])])
def term_same.B6 : List Nat := [0, 1, 0, 7, 15, 0, 32, 0, 224, 480, 1023, 2047]
theorem term_same.tab6 : rtab .any (opsOf Tryz.f113 6) = term_same.T6 := by kernel_rfl
theorem term_same.bits6 : waitsOk term_same.T6.2 term_same.B6 = true := by kernel_rfl
set_option maxHeartbeats 8000000 in
set_option maxRecDepth 100000 in
theorem term_same.calls (k : Nat) : ∀ (a0_0 : Int) (a0_1 : Int) (A0_2 : Option Addr) (c0_2 : Nat) (l0_2 : List (S50)) (a1_0 : Int) (a1_1 : Int) (A1_2 : Option Addr) (c1_2 : Nat) (l1_2 : List (S50)) (r : Bool) (w : World) (hr0_2 : Kd.C k50 w A0_2 l0_2.length l0_2) (hc0_2 : l0_2.length ≤ c0_2) (hr1_2 : Kd.C k50 w A1_2 l1_2.length l1_2) (hc1_2 : l1_2.length ≤ c1_2) (h : term_same.f k a0_0 a0_1 l0_2 a1_0 a1_1 l1_2 = some r),
  Calls Tryz.prog 113 #[.agg #[.int .i64 a0_0, .int .i64 a0_1, .slice A0_2 l0_2.length c0_2], .agg #[.int .i64 a1_0, .int .i64 a1_1, .slice A1_2 l1_2.length c1_2]] w fun e w' => e = .returned (.bool r) ∧ Below w.heap.size w w' := by
 induction k using Nat.strongRecOn with
 | _ k ih =>
 intro a0_0 a0_1 A0_2 c0_2 l0_2 a1_0 a1_1 A1_2 c1_2 l1_2 r w hr0_2 hc0_2 hr1_2 hc1_2 h
 cases k with
 | zero => exact absurd h (by simp [term_same.f])
 | succ k =>
 simp only [term_same.f] at h
 have hu50 := Tryz.underlying50
 have HR0_2 := mk0 hr0_2
 have HC0_2 := mk0 hc0_2
 clear hr0_2 hc0_2
 have HR1_2 := mk0 hr1_2
 have HC1_2 := mk0 hc1_2
 clear hr1_2 hc1_2
 have HB := mk0 (Below.refl w.heap.size w)
 have H : (if a0_0 = a1_0 then (if a0_1 = a1_1 then (term_same.j0 k ((l0_2.length : Int) != (l1_2.length : Int)) a0_0 a0_1 l0_2 a1_0 a1_1 l1_2) else (term_same.j0 k true a0_0 a0_1 l0_2 a1_0 a1_1 l1_2)) else (term_same.j0 k true a0_0 a0_1 l0_2 a1_0 a1_1 l1_2)) = some r := h
 clear h
 have HC3 := mk0 H
 clear H
 go_enter Tryz.func113, Tryz.ntmps113
 go_upto_region 1 with (first | ((with_reducible refine gate_dst (N := 2) rfl ?_); (try (refine gate_guard (by rfl) ?_; dsimp only)); refine box_event ?hg (N := 2) ?hd (cs := #[.int .i64 a0_0, .int .i64 a0_1, .slice A0_2 l0_2.length c0_2]) (t := 50) ?hr ?_; (case hd => rfl); (case hg => rfl); (case hr => first | (go_simp; done) | (go_simp; rfl)); intro gb242 hg w4 hbox hb; have n0_ := mk0 (aN_ (by repeat (first | (with_reducible first | exact HB.out | apply aA_ | apply aB_ | apply aE_) | exact HB.out)) hb); have n1_ := mk0 (hbox); have n2_ := mk0 ((by rw [hg]; exact (aL_ (by repeat (first | (with_reducible first | exact HB.out | apply aA_ | apply aB_ | apply aE_) | exact HB.out))) : w.heap.size ≤ gb242)); have n3_ := mk0 ((by rw [hg]; exact (aL_ (by repeat (first | (with_reducible first | exact HB.out | apply aA_ | apply aB_ | apply aE_) | exact HB.out))) : w.heap.size ≤ gb242)); clear HB; have HB := n0_; have BK242 := n1_; have GW242 := n2_; have GE242 := n3_; clear n0_ n1_ n2_ n3_; clear hb hbox hg) | ((with_reducible refine gate_dst (N := 3) rfl ?_); (try (refine gate_guard (by rfl) ?_; dsimp only)); refine box_event ?hg (N := 3) ?hd (cs := #[.int .i64 a1_0, .int .i64 a1_1, .slice A1_2 l1_2.length c1_2]) (t := 50) ?hr ?_; (case hd => rfl); (case hg => rfl); (case hr => first | (go_simp; done) | (go_simp; rfl)); intro gb243 hg w5 hbox hb; have n0_ := mk0 (aK_ (g := gb242) (o := .cells #[.int .i64 a0_0, .int .i64 a0_1, .slice A0_2 l0_2.length c0_2] 50 (0, 0)) (by (with_reducible repeat (first | refine aF_ ?_ _ | refine aH_ ?_ | refine aD_ ?_ _)); exact BK242.out) hb); have n1_ := mk0 (aN_ (by repeat (first | (with_reducible first | exact HB.out | apply aA_ | apply aB_ | apply aE_ | refine aG_ ?_ GE242.out) | exact HB.out)) hb); have n2_ := mk0 (hbox); have n3_ := mk0 ((by rw [hg]; exact (aL_ (by repeat (first | (with_reducible first | exact HB.out | apply aA_ | apply aB_ | apply aE_ | refine aG_ ?_ GE242.out) | exact HB.out))) : w.heap.size ≤ gb243)); have n4_ := mk0 ((by rw [hg]; exact (aL_ (by repeat (first | (with_reducible first | exact HB.out | apply aA_ | apply aB_ | apply aE_ | refine aG_ ?_ GE242.out) | exact HB.out))) : w.heap.size ≤ gb243)); have n5_ := mk0 ((by rw [hg]; exact Nat.ne_of_lt (blk_lt (g := gb242) (o := .cells #[.int .i64 a0_0, .int .i64 a0_1, .slice A0_2 l0_2.length c0_2] 50 (0, 0)) (by (with_reducible repeat (first | refine aF_ ?_ _ | refine aH_ ?_ | refine aD_ ?_ _)); exact BK242.out)) : gb242 ≠ gb243)); have n6_ := mk0 ((by rw [hg]; exact Nat.ne_of_gt (blk_lt (g := gb242) (o := .cells #[.int .i64 a0_0, .int .i64 a0_1, .slice A0_2 l0_2.length c0_2] 50 (0, 0)) (by (with_reducible repeat (first | refine aF_ ?_ _ | refine aH_ ?_ | refine aD_ ?_ _)); exact BK242.out)) : gb243 ≠ gb242)); clear BK242; clear HB; have BK242 := n0_; have HB := n1_; have BK243 := n2_; have GW243 := n3_; have GE243 := n4_; have NB242_243 := n5_; have NB243_242 := n6_; clear n0_ n1_ n2_ n3_ n4_ n5_ n6_; clear hb hbox hg))
 (try simp only [Act.put, l4_, l5_, l6_])
 go_cut [26] (fun v26 wc => ∃ (kq : Nat) (x26_2 : Bool), v26 = .bool x26_2 ∧ Aside0 (term_same.j0 kq x26_2 a0_0 a0_1 l0_2 a1_0 a1_1 l1_2 = some r) ∧ Aside0 (kq ≤ k) ∧ Aside0 (wc.heap[gb242]? = some (.cells #[.int .i64 a0_0, .int .i64 a0_1, (.slice A0_2 l0_2.length c0_2)] 50 (0, 0))) ∧ Aside0 (wc.heap[gb243]? = some (.cells #[.int .i64 a1_0, .int .i64 a1_1, (.slice A1_2 l1_2.length c1_2)] 50 (0, 0))) ∧ Aside0 (Below w.heap.size w wc))
 case first =>
  have H := HC3.out
  clear HC3
  by_cases c6 : a0_0 = a1_0
  ·rw [if_pos c6] at H
   have c6b0 : (a0_0 == a1_0) = true := beq_iff_eq.mpr c6
   have c6b1 : (a0_0 != a1_0) = false := bne_eq_false_iff_eq.mpr c6
   clear c6
   (first | rw [c6b0] | (simp only [i64_w, i32_w]; rw [c6b0]) | skip)
   by_cases c7 : a0_1 = a1_1
   ·rw [if_pos c7] at H
    have c7b0 : (a0_1 == a1_1) = true := beq_iff_eq.mpr c7
    have c7b1 : (a0_1 != a1_1) = false := bne_eq_false_iff_eq.mpr c7
    clear c7
    have H' := mk0 H
    clear H
    have hnb8 := NB242_243.out
    have hnc8 := NB243_242.out
    have hcz9_0 : w5.cell? ⟨gb242, 0, none⟩ = some (.int .i64 a0_0) := (aC_ BK242.out 0).trans rfl
    have hcz9_1 : w5.cell? ⟨gb242, 1, none⟩ = some (.int .i64 a0_1) := (aC_ BK242.out 1).trans rfl
    have hcz9_2 : w5.cell? ⟨gb242, 2, none⟩ = some (.slice A0_2 l0_2.length c0_2) := (aC_ BK242.out 2).trans rfl
    have hfz9_0 := aJ_ BK242.out 0
    have hfz9_1 := aJ_ BK242.out 1
    have hfz9_2 := aJ_ BK242.out 2
    have hcz10_0 : w5.cell? ⟨gb243, 0, none⟩ = some (.int .i64 a1_0) := (aC_ BK243.out 0).trans rfl
    have hcz10_1 : w5.cell? ⟨gb243, 1, none⟩ = some (.int .i64 a1_1) := (aC_ BK243.out 1).trans rfl
    have hcz10_2 : w5.cell? ⟨gb243, 2, none⟩ = some (.slice A1_2 l1_2.length c1_2) := (aC_ BK243.out 2).trans rfl
    have hfz10_0 := aJ_ BK243.out 0
    have hfz10_1 := aJ_ BK243.out 1
    have hfz10_2 := aJ_ BK243.out 2
    go_wp2
    go_meet
    case rel => exact ⟨_, (((l0_2.length : Int) != (l1_2.length : Int))), (by first | rfl | (simp; done) | (simp [*]; done)), H', ⟨by first | omega | exact Nat.le_refl _⟩, ⟨by (with_reducible repeat (first | refine aF_ ?_ _ | refine aH_ ?_ | refine aD_ ?_ _)); exact BK242.out⟩, ⟨by (with_reducible repeat (first | refine aF_ ?_ _ | refine aH_ ?_ | refine aD_ ?_ _)); exact BK243.out⟩, ⟨by repeat (first | (with_reducible first | exact HB.out | apply aA_ | apply aB_ | apply aE_ | refine aG_ ?_ GE242.out | refine aG_ ?_ GE243.out) | exact HB.out)⟩⟩
   ·rw [if_neg c7] at H
    have c7b0 : (a0_1 == a1_1) = false := beq_eq_false_iff_ne.mpr c7
    have c7b1 : (a0_1 != a1_1) = true := bne_iff_ne.mpr c7
    have H' := mk0 H
    clear H
    have hnb11 := NB242_243.out
    have hnc11 := NB243_242.out
    have hcz12_0 : w5.cell? ⟨gb242, 0, none⟩ = some (.int .i64 a0_0) := (aC_ BK242.out 0).trans rfl
    have hcz12_1 : w5.cell? ⟨gb242, 1, none⟩ = some (.int .i64 a0_1) := (aC_ BK242.out 1).trans rfl
    have hcz12_2 : w5.cell? ⟨gb242, 2, none⟩ = some (.slice A0_2 l0_2.length c0_2) := (aC_ BK242.out 2).trans rfl
    have hfz12_0 := aJ_ BK242.out 0
    have hfz12_1 := aJ_ BK242.out 1
    have hfz12_2 := aJ_ BK242.out 2
    have hcz13_0 : w5.cell? ⟨gb243, 0, none⟩ = some (.int .i64 a1_0) := (aC_ BK243.out 0).trans rfl
    have hcz13_1 : w5.cell? ⟨gb243, 1, none⟩ = some (.int .i64 a1_1) := (aC_ BK243.out 1).trans rfl
    have hcz13_2 : w5.cell? ⟨gb243, 2, none⟩ = some (.slice A1_2 l1_2.length c1_2) := (aC_ BK243.out 2).trans rfl
    have hfz13_0 := aJ_ BK243.out 0
    have hfz13_1 := aJ_ BK243.out 1
    have hfz13_2 := aJ_ BK243.out 2
    go_wp2
    go_meet
    case rel => exact ⟨_, (true), (by first | rfl | (simp; done) | (simp [*]; done)), H', ⟨by first | omega | exact Nat.le_refl _⟩, ⟨by (with_reducible repeat (first | refine aF_ ?_ _ | refine aH_ ?_ | refine aD_ ?_ _)); exact BK242.out⟩, ⟨by (with_reducible repeat (first | refine aF_ ?_ _ | refine aH_ ?_ | refine aD_ ?_ _)); exact BK243.out⟩, ⟨by repeat (first | (with_reducible first | exact HB.out | apply aA_ | apply aB_ | apply aE_ | refine aG_ ?_ GE242.out | refine aG_ ?_ GE243.out) | exact HB.out)⟩⟩
  ·rw [if_neg c6] at H
   have c6b0 : (a0_0 == a1_0) = false := beq_eq_false_iff_ne.mpr c6
   have c6b1 : (a0_0 != a1_0) = true := bne_iff_ne.mpr c6
   (first | rw [c6b0] | (simp only [i64_w, i32_w]; rw [c6b0]) | skip)
   have H' := mk0 H
   clear H
   have hnb14 := NB242_243.out
   have hnc14 := NB243_242.out
   have hcz15_0 : w5.cell? ⟨gb242, 0, none⟩ = some (.int .i64 a0_0) := (aC_ BK242.out 0).trans rfl
   have hcz15_1 : w5.cell? ⟨gb242, 1, none⟩ = some (.int .i64 a0_1) := (aC_ BK242.out 1).trans rfl
   have hcz15_2 : w5.cell? ⟨gb242, 2, none⟩ = some (.slice A0_2 l0_2.length c0_2) := (aC_ BK242.out 2).trans rfl
   have hfz15_0 := aJ_ BK242.out 0
   have hfz15_1 := aJ_ BK242.out 1
   have hfz15_2 := aJ_ BK242.out 2
   have hcz16_0 : w5.cell? ⟨gb243, 0, none⟩ = some (.int .i64 a1_0) := (aC_ BK243.out 0).trans rfl
   have hcz16_1 : w5.cell? ⟨gb243, 1, none⟩ = some (.int .i64 a1_1) := (aC_ BK243.out 1).trans rfl
   have hcz16_2 : w5.cell? ⟨gb243, 2, none⟩ = some (.slice A1_2 l1_2.length c1_2) := (aC_ BK243.out 2).trans rfl
   have hfz16_0 := aJ_ BK243.out 0
   have hfz16_1 := aJ_ BK243.out 1
   have hfz16_2 := aJ_ BK243.out 2
   go_wp2
   go_meet
   case rel => exact ⟨_, (true), (by first | rfl | (simp; done) | (simp [*]; done)), H', ⟨by first | omega | exact Nat.le_refl _⟩, ⟨by (with_reducible repeat (first | refine aF_ ?_ _ | refine aH_ ?_ | refine aD_ ?_ _)); exact BK242.out⟩, ⟨by (with_reducible repeat (first | refine aF_ ?_ _ | refine aH_ ?_ | refine aD_ ?_ _)); exact BK243.out⟩, ⟨by repeat (first | (with_reducible first | exact HB.out | apply aA_ | apply aB_ | apply aE_ | refine aG_ ?_ GE242.out | refine aG_ ?_ GE243.out) | exact HB.out)⟩⟩
 case rest =>
  clear HC3
  try clear c1
  try clear p2
  try clear c6
  try clear c6b0
  try clear c6b1
  try clear c7
  try clear c7b0
  try clear c7b1
  try clear c8
  try clear c11
  try clear c14
  try clear hcz10_0
  try clear hcz10_1
  try clear hcz10_2
  try clear hcz12_0
  try clear hcz12_1
  try clear hcz12_2
  try clear hcz13_0
  try clear hcz13_1
  try clear hcz13_2
  try clear hcz15_0
  try clear hcz15_1
  try clear hcz15_2
  try clear hcz16_0
  try clear hcz16_1
  try clear hcz16_2
  try clear hcz9_0
  try clear hcz9_1
  try clear hcz9_2
  try clear hfz10_0
  try clear hfz10_1
  try clear hfz10_2
  try clear hfz12_0
  try clear hfz12_1
  try clear hfz12_2
  try clear hfz13_0
  try clear hfz13_1
  try clear hfz13_2
  try clear hfz15_0
  try clear hfz15_1
  try clear hfz15_2
  try clear hfz16_0
  try clear hfz16_1
  try clear hfz16_2
  try clear hfz9_0
  try clear hfz9_1
  try clear hfz9_2
  obtain ⟨kq, x26_2, rfl, HA, HJ2, BK242, BK243, HB⟩ := hcut
  cases kq with
  | zero => exact absurd HA.out (by simp [term_same.j0])
  | succ kj2 =>
   have H := HA.out
   clear HA
   simp only [term_same.j0] at H
   by_cases c17 : x26_2 = true
   ·subst c17
    have H1 : (some false) = some r := by rw [if_pos rfl] at H; exact H
    clear H
    have H := H1
    clear H1
    obtain rfl := l13_ H
    go_wp2
    go_ret
    exact ⟨by first | rfl | (simp [aS_, aR_] <;> rfl) | (simp [*, aS_, aR_] <;> rfl), by repeat (first | (with_reducible first | exact HB.out | apply aA_ | apply aB_ | apply aE_ | refine aG_ ?_ GE242.out | refine aG_ ?_ GE243.out) | exact HB.out)⟩
   ·replace c17 := Bool.eq_false_iff.mpr c17
    subst c17
    have H1 : (term_same.l0 kj2 (l0_2.length : Int) 0 a0_0 a0_1 l0_2 a1_0 a1_1 l1_2) = some r := by rw [if_neg (show ¬ (false = true) by decide)] at H; exact H
    clear H
    have H := H1
    clear H1
    have H' := mk0 H
    clear H
    have hnb18 := NB242_243.out
    have hnc18 := NB243_242.out
    have hcz19_0 : wc.cell? ⟨gb242, 0, none⟩ = some (.int .i64 a0_0) := (aC_ BK242.out 0).trans rfl
    have hcz19_1 : wc.cell? ⟨gb242, 1, none⟩ = some (.int .i64 a0_1) := (aC_ BK242.out 1).trans rfl
    have hcz19_2 : wc.cell? ⟨gb242, 2, none⟩ = some (.slice A0_2 l0_2.length c0_2) := (aC_ BK242.out 2).trans rfl
    have hfz19_0 := aJ_ BK242.out 0
    have hfz19_1 := aJ_ BK242.out 1
    have hfz19_2 := aJ_ BK242.out 2
    go_wp2
    go_loopg [30] kj2 (fun kq v30 w' => ∃ (x30_2 : Int), v30 = .int .i64 x30_2 ∧ Aside0 (term_same.l0 kq (l0_2.length : Int) x30_2 a0_0 a0_1 l0_2 a1_0 a1_1 l1_2 = some r) ∧ Aside0 (kq ≤ kj2) ∧ Aside0 (w'.heap[gb242]? = some (.cells #[.int .i64 a0_0, .int .i64 a0_1, (.slice A0_2 l0_2.length c0_2)] 50 (0, 0))) ∧ Aside0 (w'.heap[gb243]? = some (.cells #[.int .i64 a1_0, .int .i64 a1_1, (.slice A1_2 l1_2.length c1_2)] 50 (0, 0))) ∧ Aside0 (Below w.heap.size w w'))
    case atStart => exact ⟨(0), (by first | rfl | (simp; done) | (simp [*]; done)), H', ⟨Nat.le_refl _⟩, ⟨by (with_reducible repeat (first | refine aF_ ?_ _ | refine aH_ ?_ | refine aD_ ?_ _)); exact BK242.out⟩, ⟨by (with_reducible repeat (first | refine aF_ ?_ _ | refine aH_ ?_ | refine aD_ ?_ _)); exact BK243.out⟩, ⟨by repeat (first | (with_reducible first | exact HB.out | apply aA_ | apply aB_ | apply aE_ | refine aG_ ?_ GE242.out | refine aG_ ?_ GE243.out) | exact HB.out)⟩⟩
    case round =>
     clear H'
     try clear c1
     try clear p2
     try clear c6
     try clear c6b0
     try clear c6b1
     try clear c7
     try clear c7b0
     try clear c7b1
     try clear c8
     try clear c11
     try clear c14
     try clear c17
     try clear c18
     try clear hcz10_0
     try clear hcz10_1
     try clear hcz10_2
     try clear hcz12_0
     try clear hcz12_1
     try clear hcz12_2
     try clear hcz13_0
     try clear hcz13_1
     try clear hcz13_2
     try clear hcz15_0
     try clear hcz15_1
     try clear hcz15_2
     try clear hcz16_0
     try clear hcz16_1
     try clear hcz16_2
     try clear hcz19_0
     try clear hcz19_1
     try clear hcz19_2
     try clear hcz9_0
     try clear hcz9_1
     try clear hcz9_2
     try clear hfz10_0
     try clear hfz10_1
     try clear hfz10_2
     try clear hfz12_0
     try clear hfz12_1
     try clear hfz12_2
     try clear hfz13_0
     try clear hfz13_1
     try clear hfz13_2
     try clear hfz15_0
     try clear hfz15_1
     try clear hfz15_2
     try clear hfz16_0
     try clear hfz16_1
     try clear hfz16_2
     try clear hfz19_0
     try clear hfz19_1
     try clear hfz19_2
     try clear hfz9_0
     try clear hfz9_1
     try clear hfz9_2
     try clear p2
     obtain ⟨x30_2, rfl, HA, HK2, BK242, BK243, HB⟩ := hrel
     cases gk with
     | zero => exact absurd HA.out (by simp [term_same.l0])
     | succ k2 =>
      have H := HA.out
      clear HA
      simp only [term_same.l0] at H
      by_cases c20 : x30_2 < (l0_2.length : Int)
      ·rw [if_pos c20] at H
       have c20b0 : decide (x30_2 < (l0_2.length : Int)) = true := l2_ c20
       clear c20
       by_cases c21 : 0 ≤ x30_2
       ·rw [if_pos c21] at H
        have c21b0 : decide (0 ≤ x30_2) = true := l2_ c21
        clear c21
        by_cases c22 : x30_2 < (l0_2.length : Int)
        ·rw [if_pos c22] at H
         have c22b0 : decide (x30_2 < (l0_2.length : Int)) = true := l2_ c22
         clear c22
         by_cases c23 : x30_2 < (l1_2.length : Int)
         ·rw [if_pos c23] at H
          have c23b0 : decide (x30_2 < (l1_2.length : Int)) = true := l2_ c23
          clear c23
          replace H := Option.bind_eq_some_iff.mp H
          obtain ⟨t246, A240, H⟩ := H
          replace H : (if t246 = true then (term_same.l0 k2 (l0_2.length : Int) (wrap64 (x30_2 + 1)) a0_0 a0_1 l0_2 a1_0 a1_1 l1_2) else (some false)) = some r := H
          have A24 := mk0 A240
          clear A240
          by_cases c25 : t246 = true
          ·subst c25
           have H1 : (term_same.l0 k2 (l0_2.length : Int) (wrap64 (x30_2 + 1)) a0_0 a0_1 l0_2 a1_0 a1_1 l1_2) = some r := by rw [if_pos rfl] at H; exact H
           clear H
           have H := H1
           clear H1
           have H' := mk0 H
           clear H
           try go_wp2
           have n0_ := mk0 (aH_ BK242.out)
           have n1_ := mk0 (aH_ BK243.out)
           have n2_ := mk0 (aE_ HB.out)
           clear BK242
           clear BK243
           clear HB
           have BK242 := n0_
           have BK243 := n1_
           have HB := n2_
           clear n0_ n1_ n2_
           have p244 : 0 ≤ (x30_2 : Int) := l0_ (by first | (with_reducible assumption) | assumption)
           have q244 : x30_2 < (l0_2.length : Int) := l0_ (by first | (with_reducible assumption) | assumption)
           obtain ⟨ad244, A244_2, c244_2, e244, hx244_0, hx244_1, hx244_2, hl244_2, hi244_2⟩ := at_T50 HR0_2.out x30_2 p244 q244
           have hw244_2 := hx244_2
           have hw244_1 := hx244_1
           have hw244_0 := hx244_0
           cases e244
           replace hx244_0 := (HB.out.cell (l1_ w _ hx244_0)).trans hx244_0
           replace hx244_1 := (HB.out.cell (l1_ w _ hx244_1)).trans hx244_1
           replace hx244_2 := (HB.out.cell (l1_ w _ hx244_2)).trans hx244_2
           have HR244_2 := mk0 hi244_2
           have HC244_2 := mk0 hl244_2
           clear hi244_2 hl244_2
           replace p244 := eq_true p244
           replace q244 := eq_true q244
           have p245 : 0 ≤ (x30_2 : Int) := l0_ (by first | (with_reducible assumption) | assumption)
           have q245 : x30_2 < (l1_2.length : Int) := l0_ (by first | (with_reducible assumption) | assumption)
           obtain ⟨ad245, A245_2, c245_2, e245, hx245_0, hx245_1, hx245_2, hl245_2, hi245_2⟩ := at_T50 HR1_2.out x30_2 p245 q245
           have hw245_2 := hx245_2
           have hw245_1 := hx245_1
           have hw245_0 := hx245_0
           cases e245
           replace hx245_0 := (HB.out.cell (l1_ w _ hx245_0)).trans hx245_0
           replace hx245_1 := (HB.out.cell (l1_ w _ hx245_1)).trans hx245_1
           replace hx245_2 := (HB.out.cell (l1_ w _ hx245_2)).trans hx245_2
           have HR245_2 := mk0 hi245_2
           have HC245_2 := mk0 hl245_2
           clear hi245_2 hl245_2
           replace p245 := eq_true p245
           replace q245 := eq_true q245
           refine start_ (n := 12) (S := fun w' => w'.cell? ⟨gb242, 0, none⟩ = some (.int .i64 a0_0) ∧ w'.cell? ⟨gb242, 1, none⟩ = some (.int .i64 a0_1) ∧ w'.cell? ⟨gb242, 2, none⟩ = some (.slice (some ad244) l0_2.length c0_2) ∧ w'.cell? ⟨gb243, 0, none⟩ = some (.int .i64 a1_0) ∧ w'.cell? ⟨gb243, 1, none⟩ = some (.int .i64 a1_1) ∧ w'.cell? ⟨gb243, 2, none⟩ = some (.slice (some ad245) l1_2.length c1_2) ∧ w'.cell? (ad244.add ((x30_2).toNat * 3)) = some (.int .i64 ((rd_T50 l0_2 x30_2).f0)) ∧ w'.cell? ⟨(ad244.add ((x30_2).toNat * 3)).block, (ad244.add ((x30_2).toNat * 3)).off + 1, none⟩ = some (.int .i64 ((rd_T50 l0_2 x30_2).f1)) ∧ w'.cell? ⟨(ad244.add ((x30_2).toNat * 3)).block, (ad244.add ((x30_2).toNat * 3)).off + 2, none⟩ = some (.slice A244_2 ((rd_T50 l0_2 x30_2).f2).length c244_2) ∧ w'.cell? (ad245.add ((x30_2).toNat * 3)) = some (.int .i64 ((rd_T50 l1_2 x30_2).f0)) ∧ w'.cell? ⟨(ad245.add ((x30_2).toNat * 3)).block, (ad245.add ((x30_2).toNat * 3)).off + 1, none⟩ = some (.int .i64 ((rd_T50 l1_2 x30_2).f1)) ∧ w'.cell? ⟨(ad245.add ((x30_2).toNat * 3)).block, (ad245.add ((x30_2).toNat * 3)).off + 2, none⟩ = some (.slice A245_2 ((rd_T50 l1_2 x30_2).f2).length c245_2)) (ds := []) #[false, false, false, false, false, false, false, false, false, false, false, false] (by kernel_rfl) rfl rfl ⟨(aC_ BK242.out 0).trans rfl, (aC_ BK242.out 1).trans rfl, (aC_ BK242.out 2).trans rfl, (aC_ BK243.out 0).trans rfl, (aC_ BK243.out 1).trans rfl, (aC_ BK243.out 2).trans rfl, ((HB.out.cell (l1_ w _ hw244_0)).trans hw244_0), ((HB.out.cell (l1_ w _ hw244_1)).trans hw244_1), ((HB.out.cell (l1_ w _ hw244_2)).trans hw244_2), ((HB.out.cell (l1_ w _ hw245_0)).trans hw245_0), ((HB.out.cell (l1_ w _ hw245_1)).trans hw245_1), ((HB.out.cell (l1_ w _ hw245_2)).trans hw245_2)⟩ (fun hHeld => ?_); refine with_tabW term_same.tab6 term_same.bits6 (fun HT_ HW_ => ?_)
           generalize wr.drew = w26 at BK242 BK243 HB HR244_2 HR245_2 hx244_0 hx244_1 hx244_2 hx245_0 hx245_1 hx245_2 hHeld ⊢
           refine pure_ (i := 0) (N := some 33) (v := ?_) (a' := ?_) #[true, false, false, false, false, false, false, false, false, false, false, false] rfl rfl (any_of HT_.out (by kernel_rfl)) (fun _ _ _ h => h) (Or.inl ⟨by rfl, ?_⟩) ?_ ?_
           rotate_left
           ·intro w'
            go_simp
            with_reducible rfl
           rotate_left
           ·simp only [Act.put, l4_, l5_, l6_, i64_w, i32_w]
            rfl
           refine pure_ (i := 2) (N := some 35) (v := ?_) (a' := ?_) #[true, false, true, false, false, false, false, false, false, false, false, false] rfl rfl (any_of HT_.out (by kernel_rfl)) (fun _ _ _ h => h) (Or.inl ⟨by rfl, ?_⟩) ?_ ?_
           rotate_left
           ·intro w'
            go_simp
            with_reducible rfl
           rotate_left
           ·simp only [Act.put, l4_, l5_, l6_, i64_w, i32_w]
            rfl
           refine pure_ (i := 5) (N := some 38) (v := ?_) (a' := ?_) #[true, false, true, false, false, true, false, false, false, false, false, false] rfl rfl (any_of HT_.out (by kernel_rfl)) (fun _ _ _ h => h) (Or.inl ⟨by rfl, ?_⟩) ?_ ?_
           rotate_left
           ·intro w'
            go_simp
            with_reducible rfl
           rotate_left
           ·simp only [Act.put, l4_, l5_, l6_, i64_w, i32_w]
            rfl
           refine pure_ (i := 7) (N := some 40) (v := ?_) (a' := ?_) #[true, false, true, false, false, true, false, true, false, false, false, false] rfl rfl (any_of HT_.out (by kernel_rfl)) (fun _ _ _ h => h) (Or.inl ⟨by rfl, ?_⟩) ?_ ?_
           rotate_left
           ·intro w'
            go_simp
            with_reducible rfl
           rotate_left
           ·simp only [Act.put, l4_, l5_, l6_, i64_w, i32_w]
            rfl
           refine take_ (i := 1) (N := some 34) (v := ?_) (a' := ?_) #[true, true, true, false, false, true, false, true, false, false, false, false] rfl rfl (take_ofW HT_.out HW_.out (by kernel_rfl)) (fun _ _ _ h => h) (Or.inl ⟨by rfl, ?_⟩) hHeld ?_ ?_
           rotate_left
           ·rintro w' ⟨s0, s1, s2, s3, s4, s5, s6, s7, s8, s9, s10, s11⟩
            go_simp
            with_reducible rfl
           rotate_left
           ·simp only [Act.put, l4_, l5_, l6_, i64_w, i32_w]
            rfl
           refine pure_ (i := 3) (N := some 36) (v := ?_) (a' := ?_) #[true, true, true, true, false, true, false, true, false, false, false, false] rfl rfl (any_of HT_.out (by kernel_rfl)) (fun _ _ _ h => h) (Or.inl ⟨by rfl, ?_⟩) ?_ ?_
           rotate_left
           ·intro w'
            go_simp
            with_reducible rfl
           rotate_left
           ·simp only [Act.put, l4_, l5_, l6_, i64_w, i32_w]
            rfl
           refine take_ (i := 4) (N := some 37) (v := ?_) (a' := ?_) #[true, true, true, true, true, true, false, true, false, false, false, false] rfl rfl (take_ofW HT_.out HW_.out (by kernel_rfl)) (fun _ _ _ h => h) (Or.inl ⟨by rfl, ?_⟩) hHeld ?_ ?_
           rotate_left
           ·rintro w' ⟨s0, s1, s2, s3, s4, s5, s6, s7, s8, s9, s10, s11⟩
            go_simp
            with_reducible rfl
           rotate_left
           ·simp only [Act.put, l4_, l5_, l6_, i64_w, i32_w]
            rfl
           refine take_ (i := 6) (N := some 39) (v := ?_) (a' := ?_) #[true, true, true, true, true, true, true, true, false, false, false, false] rfl rfl (take_ofW HT_.out HW_.out (by kernel_rfl)) (fun _ _ _ h => h) (Or.inl ⟨by rfl, ?_⟩) hHeld ?_ ?_
           rotate_left
           ·rintro w' ⟨s0, s1, s2, s3, s4, s5, s6, s7, s8, s9, s10, s11⟩
            go_simp
            with_reducible rfl
           rotate_left
           ·simp only [Act.put, l4_, l5_, l6_, i64_w, i32_w]
            rfl
           refine pure_ (i := 8) (N := some 41) (v := ?_) (a' := ?_) #[true, true, true, true, true, true, true, true, true, false, false, false] rfl rfl (any_of HT_.out (by kernel_rfl)) (fun _ _ _ h => h) (Or.inl ⟨by rfl, ?_⟩) ?_ ?_
           rotate_left
           ·intro w'
            go_simp
            with_reducible rfl
           rotate_left
           ·simp only [Act.put, l4_, l5_, l6_, i64_w, i32_w]
            rfl
           refine take_ (i := 9) (N := some 42) (v := ?_) (a' := ?_) #[true, true, true, true, true, true, true, true, true, true, false, false] rfl rfl (take_ofW HT_.out HW_.out (by kernel_rfl)) (fun _ _ _ h => h) (Or.inl ⟨by rfl, ?_⟩) hHeld ?_ ?_
           rotate_left
           ·rintro w' ⟨s0, s1, s2, s3, s4, s5, s6, s7, s8, s9, s10, s11⟩
            go_simp
            with_reducible rfl
           rotate_left
           ·simp only [Act.put, l4_, l5_, l6_, i64_w, i32_w]
            rfl
           refine one_ (i := 10) (N := some 43) #[true, true, true, true, true, true, true, true, true, true, true, false] rfl rfl (one_of HT_.out (by kernel_rfl)) (by decide) (fun K hK => ?_)
           refine goes_ Tryz.func113 (by kernel_rfl) rfl #[.agg #[.int .i64 ((rd_T50 l0_2 x30_2).f0), .int .i64 ((rd_T50 l0_2 x30_2).f1), .slice A244_2 ((rd_T50 l0_2 x30_2).f2).length c244_2], .agg #[.int .i64 ((rd_T50 l1_2 x30_2).f0), .int .i64 ((rd_T50 l1_2 x30_2).f1), .slice A245_2 ((rd_T50 l1_2 x30_2).f2).length c245_2]] (by rfl) rfl rfl (by (try simp only [List.map_toArray, List.map_cons, List.map_nil]); first | done | rfl | (simp only [l9_, List.length_take]; rfl)) ?_
           with_reducible refine (ih k2 (by have := HJ2.out; have := HK2.out; omega) ((rd_T50 l0_2 x30_2).f0) ((rd_T50 l0_2 x30_2).f1) _ _ ((rd_T50 l0_2 x30_2).f2) ((rd_T50 l1_2 x30_2).f0) ((rd_T50 l1_2 x30_2).f1) _ _ ((rd_T50 l1_2 x30_2).f2) true _ ?side1 ?side2 ?side3 ?side4 A24.out).mono ?_
           (case side1 => repeat (first | exact (Kd.C_below HR244_2.out HB.out) | (with_reducible refine Kd.C_alloc ?_ _) | (with_reducible refine Kd.C_drewN ?_ _) | (with_reducible refine Kd.C_drew ?_)))
           (case side2 => exact HC244_2.out)
           (case side3 => repeat (first | exact (Kd.C_below HR245_2.out HB.out) | (with_reducible refine Kd.C_alloc ?_ _) | (with_reducible refine Kd.C_drewN ?_ _) | (with_reducible refine Kd.C_drew ?_)))
           (case side4 => exact HC245_2.out)
           rintro e w27 ⟨rfl, hb⟩
           refine ⟨_, rfl, ?_⟩
           have n0_ := mk0 (aK_ (g := gb242) (o := .cells #[.int .i64 a0_0, .int .i64 a0_1, .slice (some ad244) l0_2.length c0_2] 50 (0, 0)) (by (with_reducible repeat (first | refine aF_ ?_ _ | refine aH_ ?_ | refine aD_ ?_ _)); exact BK242.out) hb)
           have n1_ := mk0 (aK_ (g := gb243) (o := .cells #[.int .i64 a1_0, .int .i64 a1_1, .slice (some ad245) l1_2.length c1_2] 50 (0, 0)) (by (with_reducible repeat (first | refine aF_ ?_ _ | refine aH_ ?_ | refine aD_ ?_ _)); exact BK243.out) hb)
           have n2_ := mk0 (aN_ (by repeat (first | (with_reducible first | exact HB.out | apply aA_ | apply aB_ | apply aE_ | refine aG_ ?_ GE242.out | refine aG_ ?_ GE243.out) | exact HB.out)) hb)
           clear BK242
           clear BK243
           clear HB
           have BK242 := n0_
           have BK243 := n1_
           have HB := n2_
           clear n0_ n1_ n2_
           (try clear hb)
           (try clear hb2)
           (try clear hk)
           (try clear hi)
           refine hK.out _ _ ⟨(aC_ BK242.out 0).trans rfl, (aC_ BK242.out 1).trans rfl, (aC_ BK242.out 2).trans rfl, (aC_ BK243.out 0).trans rfl, (aC_ BK243.out 1).trans rfl, (aC_ BK243.out 2).trans rfl, ((HB.out.cell (l1_ w _ hw244_0)).trans hw244_0), ((HB.out.cell (l1_ w _ hw244_1)).trans hw244_1), ((HB.out.cell (l1_ w _ hw244_2)).trans hw244_2), ((HB.out.cell (l1_ w _ hw245_0)).trans hw245_0), ((HB.out.cell (l1_ w _ hw245_1)).trans hw245_1), ((HB.out.cell (l1_ w _ hw245_2)).trans hw245_2)⟩ (fun hHeld => ?_)
           clear hK K
           refine norm_ (a' := ?_) ?_ ?_
           rotate_left
           ·show Act.put _ (some 43) _ = _
            simp only [Act.put, l4_, l5_, l6_, i64_w, i32_w]
            rfl
           refine pure_ (i := 11) (N := some 44) (v := ?_) (a' := ?_) #[true, true, true, true, true, true, true, true, true, true, true, true] rfl rfl (any_of HT_.out (by kernel_rfl)) (fun _ _ _ h => h) (Or.inl ⟨by rfl, ?_⟩) ?_ ?_
           rotate_left
           ·intro w'
            go_simp
            with_reducible rfl
           rotate_left
           ·simp only [Act.put, l4_, l5_, l6_, i64_w, i32_w]
            rfl
           refine done_ (done_of HT_.out (by kernel_rfl)) ?_
           try go_wp2
           go_roundg k2
           case measure => have := HJ2.out; have := HK2.out; omega
           case rel => exact ⟨(wrap64 (x30_2 + 1)), (by first | rfl | (simp; done) | (simp [*]; done)), H', ⟨by have := HJ2.out; have := HK2.out; omega⟩, ⟨by (with_reducible repeat (first | refine aF_ ?_ _ | refine aH_ ?_ | refine aD_ ?_ _)); exact BK242.out⟩, ⟨by (with_reducible repeat (first | refine aF_ ?_ _ | refine aH_ ?_ | refine aD_ ?_ _)); exact BK243.out⟩, ⟨by repeat (first | (with_reducible first | exact HB.out | apply aA_ | apply aB_ | apply aE_ | refine aG_ ?_ GE242.out | refine aG_ ?_ GE243.out) | exact HB.out)⟩⟩
          ·replace c25 := Bool.eq_false_iff.mpr c25
           subst c25
           have H1 : (some false) = some r := by rw [if_neg (show ¬ (false = true) by decide)] at H; exact H
           clear H
           have H := H1
           clear H1
           obtain rfl := l13_ H
           try go_wp2
           have n0_ := mk0 (aH_ BK242.out)
           have n1_ := mk0 (aH_ BK243.out)
           have n2_ := mk0 (aE_ HB.out)
           clear BK242
           clear BK243
           clear HB
           have BK242 := n0_
           have BK243 := n1_
           have HB := n2_
           clear n0_ n1_ n2_
           have p244 : 0 ≤ (x30_2 : Int) := l0_ (by first | (with_reducible assumption) | assumption)
           have q244 : x30_2 < (l0_2.length : Int) := l0_ (by first | (with_reducible assumption) | assumption)
           obtain ⟨ad244, A244_2, c244_2, e244, hx244_0, hx244_1, hx244_2, hl244_2, hi244_2⟩ := at_T50 HR0_2.out x30_2 p244 q244
           have hw244_2 := hx244_2
           have hw244_1 := hx244_1
           have hw244_0 := hx244_0
           cases e244
           replace hx244_0 := (HB.out.cell (l1_ w _ hx244_0)).trans hx244_0
           replace hx244_1 := (HB.out.cell (l1_ w _ hx244_1)).trans hx244_1
           replace hx244_2 := (HB.out.cell (l1_ w _ hx244_2)).trans hx244_2
           have HR244_2 := mk0 hi244_2
           have HC244_2 := mk0 hl244_2
           clear hi244_2 hl244_2
           replace p244 := eq_true p244
           replace q244 := eq_true q244
           have p245 : 0 ≤ (x30_2 : Int) := l0_ (by first | (with_reducible assumption) | assumption)
           have q245 : x30_2 < (l1_2.length : Int) := l0_ (by first | (with_reducible assumption) | assumption)
           obtain ⟨ad245, A245_2, c245_2, e245, hx245_0, hx245_1, hx245_2, hl245_2, hi245_2⟩ := at_T50 HR1_2.out x30_2 p245 q245
           have hw245_2 := hx245_2
           have hw245_1 := hx245_1
           have hw245_0 := hx245_0
           cases e245
           replace hx245_0 := (HB.out.cell (l1_ w _ hx245_0)).trans hx245_0
           replace hx245_1 := (HB.out.cell (l1_ w _ hx245_1)).trans hx245_1
           replace hx245_2 := (HB.out.cell (l1_ w _ hx245_2)).trans hx245_2
           have HR245_2 := mk0 hi245_2
           have HC245_2 := mk0 hl245_2
           clear hi245_2 hl245_2
           replace p245 := eq_true p245
           replace q245 := eq_true q245
           refine start_ (n := 12) (S := fun w' => w'.cell? ⟨gb242, 0, none⟩ = some (.int .i64 a0_0) ∧ w'.cell? ⟨gb242, 1, none⟩ = some (.int .i64 a0_1) ∧ w'.cell? ⟨gb242, 2, none⟩ = some (.slice (some ad244) l0_2.length c0_2) ∧ w'.cell? ⟨gb243, 0, none⟩ = some (.int .i64 a1_0) ∧ w'.cell? ⟨gb243, 1, none⟩ = some (.int .i64 a1_1) ∧ w'.cell? ⟨gb243, 2, none⟩ = some (.slice (some ad245) l1_2.length c1_2) ∧ w'.cell? (ad244.add ((x30_2).toNat * 3)) = some (.int .i64 ((rd_T50 l0_2 x30_2).f0)) ∧ w'.cell? ⟨(ad244.add ((x30_2).toNat * 3)).block, (ad244.add ((x30_2).toNat * 3)).off + 1, none⟩ = some (.int .i64 ((rd_T50 l0_2 x30_2).f1)) ∧ w'.cell? ⟨(ad244.add ((x30_2).toNat * 3)).block, (ad244.add ((x30_2).toNat * 3)).off + 2, none⟩ = some (.slice A244_2 ((rd_T50 l0_2 x30_2).f2).length c244_2) ∧ w'.cell? (ad245.add ((x30_2).toNat * 3)) = some (.int .i64 ((rd_T50 l1_2 x30_2).f0)) ∧ w'.cell? ⟨(ad245.add ((x30_2).toNat * 3)).block, (ad245.add ((x30_2).toNat * 3)).off + 1, none⟩ = some (.int .i64 ((rd_T50 l1_2 x30_2).f1)) ∧ w'.cell? ⟨(ad245.add ((x30_2).toNat * 3)).block, (ad245.add ((x30_2).toNat * 3)).off + 2, none⟩ = some (.slice A245_2 ((rd_T50 l1_2 x30_2).f2).length c245_2)) (ds := []) #[false, false, false, false, false, false, false, false, false, false, false, false] (by kernel_rfl) rfl rfl ⟨(aC_ BK242.out 0).trans rfl, (aC_ BK242.out 1).trans rfl, (aC_ BK242.out 2).trans rfl, (aC_ BK243.out 0).trans rfl, (aC_ BK243.out 1).trans rfl, (aC_ BK243.out 2).trans rfl, ((HB.out.cell (l1_ w _ hw244_0)).trans hw244_0), ((HB.out.cell (l1_ w _ hw244_1)).trans hw244_1), ((HB.out.cell (l1_ w _ hw244_2)).trans hw244_2), ((HB.out.cell (l1_ w _ hw245_0)).trans hw245_0), ((HB.out.cell (l1_ w _ hw245_1)).trans hw245_1), ((HB.out.cell (l1_ w _ hw245_2)).trans hw245_2)⟩ (fun hHeld => ?_); refine with_tabW term_same.tab6 term_same.bits6 (fun HT_ HW_ => ?_)
           generalize wr.drew = w28 at BK242 BK243 HB HR244_2 HR245_2 hx244_0 hx244_1 hx244_2 hx245_0 hx245_1 hx245_2 hHeld ⊢
           refine pure_ (i := 0) (N := some 33) (v := ?_) (a' := ?_) #[true, false, false, false, false, false, false, false, false, false, false, false] rfl rfl (any_of HT_.out (by kernel_rfl)) (fun _ _ _ h => h) (Or.inl ⟨by rfl, ?_⟩) ?_ ?_
           rotate_left
           ·intro w'
            go_simp
            with_reducible rfl
           rotate_left
           ·simp only [Act.put, l4_, l5_, l6_, i64_w, i32_w]
            rfl
           refine pure_ (i := 2) (N := some 35) (v := ?_) (a' := ?_) #[true, false, true, false, false, false, false, false, false, false, false, false] rfl rfl (any_of HT_.out (by kernel_rfl)) (fun _ _ _ h => h) (Or.inl ⟨by rfl, ?_⟩) ?_ ?_
           rotate_left
           ·intro w'
            go_simp
            with_reducible rfl
           rotate_left
           ·simp only [Act.put, l4_, l5_, l6_, i64_w, i32_w]
            rfl
           refine pure_ (i := 5) (N := some 38) (v := ?_) (a' := ?_) #[true, false, true, false, false, true, false, false, false, false, false, false] rfl rfl (any_of HT_.out (by kernel_rfl)) (fun _ _ _ h => h) (Or.inl ⟨by rfl, ?_⟩) ?_ ?_
           rotate_left
           ·intro w'
            go_simp
            with_reducible rfl
           rotate_left
           ·simp only [Act.put, l4_, l5_, l6_, i64_w, i32_w]
            rfl
           refine pure_ (i := 7) (N := some 40) (v := ?_) (a' := ?_) #[true, false, true, false, false, true, false, true, false, false, false, false] rfl rfl (any_of HT_.out (by kernel_rfl)) (fun _ _ _ h => h) (Or.inl ⟨by rfl, ?_⟩) ?_ ?_
           rotate_left
           ·intro w'
            go_simp
            with_reducible rfl
           rotate_left
           ·simp only [Act.put, l4_, l5_, l6_, i64_w, i32_w]
            rfl
           refine take_ (i := 1) (N := some 34) (v := ?_) (a' := ?_) #[true, true, true, false, false, true, false, true, false, false, false, false] rfl rfl (take_ofW HT_.out HW_.out (by kernel_rfl)) (fun _ _ _ h => h) (Or.inl ⟨by rfl, ?_⟩) hHeld ?_ ?_
           rotate_left
           ·rintro w' ⟨s0, s1, s2, s3, s4, s5, s6, s7, s8, s9, s10, s11⟩
            go_simp
            with_reducible rfl
           rotate_left
           ·simp only [Act.put, l4_, l5_, l6_, i64_w, i32_w]
            rfl
           refine pure_ (i := 3) (N := some 36) (v := ?_) (a' := ?_) #[true, true, true, true, false, true, false, true, false, false, false, false] rfl rfl (any_of HT_.out (by kernel_rfl)) (fun _ _ _ h => h) (Or.inl ⟨by rfl, ?_⟩) ?_ ?_
           rotate_left
           ·intro w'
            go_simp
            with_reducible rfl
           rotate_left
           ·simp only [Act.put, l4_, l5_, l6_, i64_w, i32_w]
            rfl
           refine take_ (i := 4) (N := some 37) (v := ?_) (a' := ?_) #[true, true, true, true, true, true, false, true, false, false, false, false] rfl rfl (take_ofW HT_.out HW_.out (by kernel_rfl)) (fun _ _ _ h => h) (Or.inl ⟨by rfl, ?_⟩) hHeld ?_ ?_
           rotate_left
           ·rintro w' ⟨s0, s1, s2, s3, s4, s5, s6, s7, s8, s9, s10, s11⟩
            go_simp
            with_reducible rfl
           rotate_left
           ·simp only [Act.put, l4_, l5_, l6_, i64_w, i32_w]
            rfl
           refine take_ (i := 6) (N := some 39) (v := ?_) (a' := ?_) #[true, true, true, true, true, true, true, true, false, false, false, false] rfl rfl (take_ofW HT_.out HW_.out (by kernel_rfl)) (fun _ _ _ h => h) (Or.inl ⟨by rfl, ?_⟩) hHeld ?_ ?_
           rotate_left
           ·rintro w' ⟨s0, s1, s2, s3, s4, s5, s6, s7, s8, s9, s10, s11⟩
            go_simp
            with_reducible rfl
           rotate_left
           ·simp only [Act.put, l4_, l5_, l6_, i64_w, i32_w]
            rfl
           refine pure_ (i := 8) (N := some 41) (v := ?_) (a' := ?_) #[true, true, true, true, true, true, true, true, true, false, false, false] rfl rfl (any_of HT_.out (by kernel_rfl)) (fun _ _ _ h => h) (Or.inl ⟨by rfl, ?_⟩) ?_ ?_
           rotate_left
           ·intro w'
            go_simp
            with_reducible rfl
           rotate_left
           ·simp only [Act.put, l4_, l5_, l6_, i64_w, i32_w]
            rfl
           refine take_ (i := 9) (N := some 42) (v := ?_) (a' := ?_) #[true, true, true, true, true, true, true, true, true, true, false, false] rfl rfl (take_ofW HT_.out HW_.out (by kernel_rfl)) (fun _ _ _ h => h) (Or.inl ⟨by rfl, ?_⟩) hHeld ?_ ?_
           rotate_left
           ·rintro w' ⟨s0, s1, s2, s3, s4, s5, s6, s7, s8, s9, s10, s11⟩
            go_simp
            with_reducible rfl
           rotate_left
           ·simp only [Act.put, l4_, l5_, l6_, i64_w, i32_w]
            rfl
           refine one_ (i := 10) (N := some 43) #[true, true, true, true, true, true, true, true, true, true, true, false] rfl rfl (one_of HT_.out (by kernel_rfl)) (by decide) (fun K hK => ?_)
           refine goes_ Tryz.func113 (by kernel_rfl) rfl #[.agg #[.int .i64 ((rd_T50 l0_2 x30_2).f0), .int .i64 ((rd_T50 l0_2 x30_2).f1), .slice A244_2 ((rd_T50 l0_2 x30_2).f2).length c244_2], .agg #[.int .i64 ((rd_T50 l1_2 x30_2).f0), .int .i64 ((rd_T50 l1_2 x30_2).f1), .slice A245_2 ((rd_T50 l1_2 x30_2).f2).length c245_2]] (by rfl) rfl rfl (by (try simp only [List.map_toArray, List.map_cons, List.map_nil]); first | done | rfl | (simp only [l9_, List.length_take]; rfl)) ?_
           with_reducible refine (ih k2 (by have := HJ2.out; have := HK2.out; omega) ((rd_T50 l0_2 x30_2).f0) ((rd_T50 l0_2 x30_2).f1) _ _ ((rd_T50 l0_2 x30_2).f2) ((rd_T50 l1_2 x30_2).f0) ((rd_T50 l1_2 x30_2).f1) _ _ ((rd_T50 l1_2 x30_2).f2) false _ ?side1 ?side2 ?side3 ?side4 A24.out).mono ?_
           (case side1 => repeat (first | exact (Kd.C_below HR244_2.out HB.out) | (with_reducible refine Kd.C_alloc ?_ _) | (with_reducible refine Kd.C_drewN ?_ _) | (with_reducible refine Kd.C_drew ?_)))
           (case side2 => exact HC244_2.out)
           (case side3 => repeat (first | exact (Kd.C_below HR245_2.out HB.out) | (with_reducible refine Kd.C_alloc ?_ _) | (with_reducible refine Kd.C_drewN ?_ _) | (with_reducible refine Kd.C_drew ?_)))
           (case side4 => exact HC245_2.out)
           rintro e w29 ⟨rfl, hb⟩
           refine ⟨_, rfl, ?_⟩
           have n0_ := mk0 (aK_ (g := gb242) (o := .cells #[.int .i64 a0_0, .int .i64 a0_1, .slice (some ad244) l0_2.length c0_2] 50 (0, 0)) (by (with_reducible repeat (first | refine aF_ ?_ _ | refine aH_ ?_ | refine aD_ ?_ _)); exact BK242.out) hb)
           have n1_ := mk0 (aK_ (g := gb243) (o := .cells #[.int .i64 a1_0, .int .i64 a1_1, .slice (some ad245) l1_2.length c1_2] 50 (0, 0)) (by (with_reducible repeat (first | refine aF_ ?_ _ | refine aH_ ?_ | refine aD_ ?_ _)); exact BK243.out) hb)
           have n2_ := mk0 (aN_ (by repeat (first | (with_reducible first | exact HB.out | apply aA_ | apply aB_ | apply aE_ | refine aG_ ?_ GE242.out | refine aG_ ?_ GE243.out) | exact HB.out)) hb)
           clear BK242
           clear BK243
           clear HB
           have BK242 := n0_
           have BK243 := n1_
           have HB := n2_
           clear n0_ n1_ n2_
           (try clear hb)
           (try clear hb2)
           (try clear hk)
           (try clear hi)
           refine hK.out _ _ ⟨(aC_ BK242.out 0).trans rfl, (aC_ BK242.out 1).trans rfl, (aC_ BK242.out 2).trans rfl, (aC_ BK243.out 0).trans rfl, (aC_ BK243.out 1).trans rfl, (aC_ BK243.out 2).trans rfl, ((HB.out.cell (l1_ w _ hw244_0)).trans hw244_0), ((HB.out.cell (l1_ w _ hw244_1)).trans hw244_1), ((HB.out.cell (l1_ w _ hw244_2)).trans hw244_2), ((HB.out.cell (l1_ w _ hw245_0)).trans hw245_0), ((HB.out.cell (l1_ w _ hw245_1)).trans hw245_1), ((HB.out.cell (l1_ w _ hw245_2)).trans hw245_2)⟩ (fun hHeld => ?_)
           clear hK K
           refine norm_ (a' := ?_) ?_ ?_
           rotate_left
           ·show Act.put _ (some 43) _ = _
            simp only [Act.put, l4_, l5_, l6_, i64_w, i32_w]
            rfl
           refine pure_ (i := 11) (N := some 44) (v := ?_) (a' := ?_) #[true, true, true, true, true, true, true, true, true, true, true, true] rfl rfl (any_of HT_.out (by kernel_rfl)) (fun _ _ _ h => h) (Or.inl ⟨by rfl, ?_⟩) ?_ ?_
           rotate_left
           ·intro w'
            go_simp
            with_reducible rfl
           rotate_left
           ·simp only [Act.put, l4_, l5_, l6_, i64_w, i32_w]
            rfl
           refine done_ (done_of HT_.out (by kernel_rfl)) ?_
           try go_wp2
           go_ret
           exact ⟨by first | rfl | (simp [aS_, aR_] <;> rfl) | (simp [*, aS_, aR_] <;> rfl), by repeat (first | (with_reducible first | exact HB.out | apply aA_ | apply aB_ | apply aE_ | refine aG_ ?_ GE242.out | refine aG_ ?_ GE243.out) | exact HB.out)⟩
         ·rw [if_neg c23] at H
          exact absurd H (by simp)
        ·rw [if_neg c22] at H
         exact absurd H (by simp)
       ·rw [if_neg c21] at H
        exact absurd H (by simp)
      ·rw [if_neg c20] at H
       have c20b0 : decide (x30_2 < (l0_2.length : Int)) = false := l3_ c20
       clear c20
       obtain rfl := l13_ H
       go_wp2
       go_ret
       exact ⟨by first | rfl | (simp [aS_, aR_] <;> rfl) | (simp [*, aS_, aR_] <;> rfl), by repeat (first | (with_reducible first | exact HB.out | apply aA_ | apply aB_ | apply aE_ | refine aG_ ?_ GE242.out | refine aG_ ?_ GE243.out) | exact HB.out)⟩
def api_Symbol.l0 : Nat → List (S71) → List (S71) → Int → Int → Option (Bool)
 | 0, _, _, _, _ => none
 | k + 1, x0, x1, x12, x13 => if x13 < x12 then (if 0 ≤ x13 then (if x13 < (x0.length : Int) then (if x13 < (x1.length : Int) then (if (!((((rd_T71 x0 x13).f0).toList) == (((rd_T71 x1 x13).f0).toList)) || (!(((rd_T71 x0 x13).f1) == ((rd_T71 x1 x13).f1)))) = true then (some false) else (api_Symbol.l0 k x0 x1 x12 (wrap64 (x13 + 1)))) else (none)) else (none)) else (none)) else (some true)
def api_Symbol.f (k : Nat) (l0 : List (S71)) (l1 : List (S71)) : Option (Bool) := if (l0.length : Int) = (l1.length : Int) then (api_Symbol.l0 k l0 l1 (l0.length : Int) 0) else (some false)
set_option maxHeartbeats 8000000 in
set_option maxRecDepth 100000 in
theorem api_Symbol.calls (k : Nat) (A0 : Option Addr) (c0 : Nat) (l0 : List (S71)) (A1 : Option Addr) (c1 : Nat) (l1 : List (S71)) (r : Bool) (w : World) (hr0 : Kd.C k71 w A0 l0.length l0) (hc0 : l0.length ≤ c0) (hr1 : Kd.C k71 w A1 l1.length l1) (hc1 : l1.length ≤ c1) (h : api_Symbol.f k l0 l1 = some r) :
  Calls Tryz.prog 71 #[.slice A0 l0.length c0, .slice A1 l1.length c1] w fun e w' => e = .returned (.bool r) ∧ Drawn0 w w' := by
 have hu71 := Tryz.underlying71
 have HR0 := mk0 hr0
 have HC0 := mk0 hc0
 clear hr0 hc0
 have HR1 := mk0 hr1
 have HC1 := mk0 hc1
 clear hr1 hc1
 have H : (if (l0.length : Int) = (l1.length : Int) then (api_Symbol.l0 k l0 l1 (l0.length : Int) 0) else (some false)) = some r := h
 clear h
 by_cases c3 : (l0.length : Int) = (l1.length : Int)
 ·rw [if_pos c3] at H
  have c3b0 : ((l0.length : Int) == (l1.length : Int)) = true := beq_iff_eq.mpr c3
  have c3b1 : ((l0.length : Int) != (l1.length : Int)) = false := bne_eq_false_iff_eq.mpr c3
  have c3b2 : (l0.length == l1.length) = true := by first | simpa using c3 | (simp at c3 ⊢; omega)
  clear c3
  have H' := mk0 H
  clear H
  go_enter Tryz.func71, Tryz.ntmps71
  go_wp2
  repeat (go_quiet (fail); try go_wp2)
  go_loopg [13] k (fun kq v13 w' => ∃ (x13_1 : Int), v13 = .int .i64 x13_1 ∧ Aside0 (api_Symbol.l0 kq l0 l1 (l0.length : Int) x13_1 = some r) ∧ Aside0 (kq ≤ k) ∧ Drawn0 w w')
  case atStart => exact ⟨(0), (by first | rfl | (simp; done) | (simp [*]; done)), H', ⟨Nat.le_refl _⟩, by repeat (first | exact Drawn0.refl _ | apply Drawn0.step)⟩
  case round =>
   clear H'
   try clear c1
   try clear p2
   try clear c3
   try clear c3b0
   try clear c3b1
   try clear c3b2
   obtain ⟨x13_1, rfl, HA, HK1, ⟨m1, rfl⟩⟩ := hrel
   cases gk with
   | zero => exact absurd HA.out (by simp [api_Symbol.l0])
   | succ k1 =>
    have H := HA.out
    clear HA
    simp only [api_Symbol.l0] at H
    by_cases c4 : x13_1 < (l0.length : Int)
    ·rw [if_pos c4] at H
     have c4b0 : decide (x13_1 < (l0.length : Int)) = true := l2_ c4
     clear c4
     by_cases c5 : 0 ≤ x13_1
     ·rw [if_pos c5] at H
      have c5b0 : decide (0 ≤ x13_1) = true := l2_ c5
      clear c5
      by_cases c6 : x13_1 < (l0.length : Int)
      ·rw [if_pos c6] at H
       have c6b0 : decide (x13_1 < (l0.length : Int)) = true := l2_ c6
       clear c6
       by_cases c7 : x13_1 < (l1.length : Int)
       ·rw [if_pos c7] at H
        have c7b0 : decide (x13_1 < (l1.length : Int)) = true := l2_ c7
        clear c7
        by_cases c8 : (!((((rd_T71 l0 x13_1).f0).toList) == (((rd_T71 l1 x13_1).f0).toList)) || (!(((rd_T71 l0 x13_1).f1) == ((rd_T71 l1 x13_1).f1)))) = true
        ·rw [if_pos c8] at H
         have c8b0 : (!((((rd_T71 l0 x13_1).f0).toList) == (((rd_T71 l1 x13_1).f0).toList)) || (!(((rd_T71 l0 x13_1).f1) == ((rd_T71 l1 x13_1).f1)))) = true := c8
         clear c8
         obtain rfl := l13_ H
         have p247 : 0 ≤ (x13_1 : Int) := l0_ (by first | (with_reducible assumption) | assumption)
         have q247 : x13_1 < (l0.length : Int) := l0_ (by first | (with_reducible assumption) | assumption)
         obtain ⟨ad247, e247, hx247_0, hx247_1⟩ := at_T71 HR0.out x13_1 p247 q247
         cases e247
         replace p247 := eq_true p247
         replace q247 := eq_true q247
         have p248 : 0 ≤ (x13_1 : Int) := l0_ (by first | (with_reducible assumption) | assumption)
         have q248 : x13_1 < (l1.length : Int) := l0_ (by first | (with_reducible assumption) | assumption)
         obtain ⟨ad248, e248, hx248_0, hx248_1⟩ := at_T71 HR1.out x13_1 p248 q248
         cases e248
         replace p248 := eq_true p248
         replace q248 := eq_true q248
         go_wp2
         repeat (go_quiet (fail); try go_wp2)
         go_ret
         exact ⟨by first | rfl | (simp; done) | (simp [*]; done), by repeat (first | exact Drawn0.refl _ | apply Drawn0.step)⟩
        ·rw [if_neg c8] at H
         have c8b0 : (!((((rd_T71 l0 x13_1).f0).toList) == (((rd_T71 l1 x13_1).f0).toList)) || (!(((rd_T71 l0 x13_1).f1) == ((rd_T71 l1 x13_1).f1)))) = false := by simpa using c8
         clear c8
         have H' := mk0 H
         clear H
         have p247 : 0 ≤ (x13_1 : Int) := l0_ (by first | (with_reducible assumption) | assumption)
         have q247 : x13_1 < (l0.length : Int) := l0_ (by first | (with_reducible assumption) | assumption)
         obtain ⟨ad247, e247, hx247_0, hx247_1⟩ := at_T71 HR0.out x13_1 p247 q247
         cases e247
         replace p247 := eq_true p247
         replace q247 := eq_true q247
         have p248 : 0 ≤ (x13_1 : Int) := l0_ (by first | (with_reducible assumption) | assumption)
         have q248 : x13_1 < (l1.length : Int) := l0_ (by first | (with_reducible assumption) | assumption)
         obtain ⟨ad248, e248, hx248_0, hx248_1⟩ := at_T71 HR1.out x13_1 p248 q248
         cases e248
         replace p248 := eq_true p248
         replace q248 := eq_true q248
         go_wp2
         repeat (go_quiet (fail); try go_wp2)
         go_roundg k1
         case measure => have := HK1.out; omega
         case rel => exact ⟨(wrap64 (x13_1 + 1)), (by first | rfl | (simp; done) | (simp [*]; done)), H', ⟨by have := HK1.out; omega⟩, by repeat (first | exact Drawn0.refl _ | apply Drawn0.step)⟩
       ·rw [if_neg c7] at H
        exact absurd H (by simp)
      ·rw [if_neg c6] at H
       exact absurd H (by simp)
     ·rw [if_neg c5] at H
      exact absurd H (by simp)
    ·rw [if_neg c4] at H
     have c4b0 : decide (x13_1 < (l0.length : Int)) = false := l3_ c4
     clear c4
     obtain rfl := l13_ H
     go_wp2
     repeat (go_quiet (fail); try go_wp2)
     go_ret
     exact ⟨by first | rfl | (simp; done) | (simp [*]; done), by repeat (first | exact Drawn0.refl _ | apply Drawn0.step)⟩
 ·rw [if_neg c3] at H
  have c3b0 : ((l0.length : Int) == (l1.length : Int)) = false := beq_eq_false_iff_ne.mpr c3
  have c3b1 : ((l0.length : Int) != (l1.length : Int)) = true := bne_iff_ne.mpr c3
  have c3b2 : (l0.length == l1.length) = false := by first | simpa using c3 | (simp at c3 ⊢; omega)
  obtain rfl := l13_ H
  go_enter Tryz.func71, Tryz.ntmps71
  go_wp2
  repeat (go_quiet (fail); try go_wp2)
  go_ret
  exact ⟨by first | rfl | (simp; done) | (simp [*]; done), by repeat (first | exact Drawn0.refl _ | apply Drawn0.step)⟩
end Go.Proofs.YthflpbgloeimfaaGreatDoor.Q
namespace Go.Proofs.YthflpbgloeimfaaGreatDoor.H
open Go.RowKit Go.Proofs.YthflpbgloeimfaaGreatDoorW.PrintWords Go.Proofs.YthflpbgloeimfaaGreatDoorW.PrintLast Go.Proofs.YthflpbgloeimfaaGreatDoorW.PrintMore
open Go.Proofs.YthflpbgloeimfaaGreatDoor.Q (S47 k47 rd_T47 z47 S50 k50 rd_T50 z50 S52 k52 S71 k71 rd_T71)
set_option linter.unusedVariables false
set_option linter.unusedSimpArgs false
theorem ev_next {α : Type} {g f : Nat → Option α} {r : α} (k : Ev f r) (h : ∀ k, g (k + 1) = f k) : Ev g r := Ev.step h k
theorem ev_end {α : Type} {g : Nat → Option α} {r : α} (h : ∀ k, g (k + 1) = some r) : Ev g r := Ev.step (f := fun _ => some r) h (Ev.now r)
theorem wrap_succ {i : Int} (h0 : 0 ≤ i) (h1 : i < 9223372036854775807) : wrap64 (i + 1) = i + 1 := by
 unfold wrap64; omega
theorem wr_id {x : Int} (h1 : -9223372036854775808 ≤ x) (h2 : x ≤ 9223372036854775807) : wrap64 x = x := by unfold wrap64; omega
mutual
def sN : S47 → Nat
 | ⟨l⟩ => sNL l + 1
def sNL : List S47 → Nat
 | [] => 0
 | t :: r => sN t + sNL r
end
mutual
def sD : S47 → Nat
 | ⟨l⟩ => sDL l + 1
def sDL : List S47 → Nat
 | [] => 0
 | t :: r => max (sD t) (sDL r)
end
mutual
def sF : S47 → Bool
 | ⟨l⟩ => sFL l && decide (l.length ≤ 8)
def sFL : List S47 → Bool
 | [] => true
 | t :: r => sF t && sFL r
end
mutual
def sO : S47 → Nat
 | ⟨l⟩ => sOL l
def sOL : List S47 → Nat
 | [] => 0
 | t :: r => max (sO t + 1) (sOL r)
end
mutual
def sE : S47 → S47 → Bool
 | ⟨l⟩, ⟨m⟩ => decide (l.length = m.length) && sEL l m
def sEL : List S47 → List S47 → Bool
 | [], _ => true
 | _ :: _, [] => false
 | a :: r, b :: s => sE a b && sEL r s
end
theorem sN_pos (t : S47) : 1 ≤ sN t := by cases t; rw [sN]; omega
theorem sN_mem {l : List S47} {t : S47} (h : t ∈ l) : sN t ≤ sNL l := by
 induction l with
 | nil => cases h
 | cons a r ih =>
  rw [sNL]
  rcases List.mem_cons.1 h with rfl | h
  ·omega
  ·have := ih h; omega
theorem sLen_le {l : List S47} : l.length ≤ sNL l := by
 induction l with
 | nil => simp
 | cons a r ih => rw [sNL, l8_]; have := sN_pos a; omega
theorem sD_le_aux (n : Nat) : ∀ t : S47, sN t ≤ n → sD t ≤ sN t := by
 induction n with
 | zero => intro t h; have := sN_pos t; omega
 | succ n ih =>
  intro t h
  obtain ⟨l⟩ := t
  rw [sN] at h ⊢
  rw [sD]
  have : ∀ l : List S47, sNL l ≤ n → sDL l ≤ sNL l := by
   intro l
   induction l with
   | nil => intro _; simp [sDL]
   | cons a r ihr =>
    intro h
    rw [sNL] at h ⊢
    rw [sDL]
    have h1 := ih a (by omega)
    have h2 := ihr (by omega)
    omega
  have := this l (by omega)
  omega
theorem sD_le (t : S47) : sD t ≤ sN t := sD_le_aux _ t (Nat.le_refl _)
theorem sDL_le (l : List S47) : sDL l ≤ sNL l := by
 induction l with
 | nil => simp [sDL]
 | cons a r ih => rw [sDL, sNL]; have := sD_le a; omega
theorem sO_le_aux (n : Nat) : ∀ t : S47, sN t ≤ n → sO t ≤ sN t := by
 induction n with
 | zero => intro t h; have := sN_pos t; omega
 | succ n ih =>
  intro t h
  obtain ⟨l⟩ := t
  rw [sN] at h ⊢
  rw [sO]
  have : ∀ l : List S47, sNL l ≤ n → sOL l ≤ sNL l + 1 := by
   intro l
   induction l with
   | nil => intro _; simp [sOL]
   | cons a r ihr =>
    intro h
    rw [sNL] at h ⊢
    rw [sOL]
    have h1 := ih a (by omega)
    have h2 := ihr (by omega)
    omega
  exact this l (by omega)
theorem sO_le (t : S47) : sO t ≤ sN t := sO_le_aux _ t (Nat.le_refl _)
theorem sNL_snoc (a : List S47) (x : S47) : sNL (a ++ [x]) = sNL a + sN x := by
 induction a with
 | nil => simp [sNL]
 | cons y r ih => rw [List.cons_append, sNL, sNL, ih]; omega
theorem sDL_snoc (a : List S47) (x : S47) : sDL (a ++ [x]) = max (sDL a) (sD x) := by
 induction a with
 | nil => simp [sDL]
 | cons y r ih => rw [List.cons_append, sDL, sDL, ih]; omega
theorem sOL_snoc (a : List S47) (x : S47) : sOL (a ++ [x]) = max (sOL a) (sO x + 1) := by
 induction a with
 | nil => simp [sOL]
 | cons y r ih => rw [List.cons_append, sOL, sOL, ih]; omega
theorem takeS {α : Type} {l : List α} {j : Nat} (h : j < l.length) : l.take (j + 1) = l.take j ++ [l[j]] := by rw [List.take_add_one, l17_ h]; rfl
theorem dropS {α : Type} {l : List α} {j : Nat} (h : j < l.length) : l.drop j = l[j] :: l.drop (j + 1) := (List.drop_eq_getElem_cons h)
theorem sNL_take (l : List S47) (j : Nat) : sNL (l.take j) ≤ sNL l := by
 induction l generalizing j with
 | nil => simp
 | cons a r ih =>
  cases j with
  | zero => simp [sNL]
  | succ j => rw [List.take_succ_cons, sNL, sNL]; have := ih j; omega
theorem rdS_at {l : List S47} {j : Nat} (h : j < l.length) : rd_T47 l (j : Int) = l[j] := by simp [rd_T47, l18_, l17_ h]
theorem sE_iff_aux (n : Nat) : ∀ a b : S47, sN a ≤ n → (sE a b = true ↔ a = b) := by
 induction n with
 | zero => intro t _ h; have := sN_pos t; omega
 | succ n ih =>
  intro a b h
  obtain ⟨l⟩ := a
  obtain ⟨m⟩ := b
  rw [sN] at h
  have key : ∀ l m : List S47, sNL l ≤ n → l.length = m.length → (sEL l m = true ↔ l = m) := by
   intro l
   induction l with
   | nil => intro m _ hl; cases m with
    | nil => simp [sEL]
    | cons => simp at hl
   | cons a r ihr =>
    intro m h hl
    cases m with
    | nil => simp at hl
    | cons b s =>
     rw [sNL] at h
     rw [sEL, l19_, ih a b (by omega), ihr s (by omega) (by simpa using hl)]
     simp
  rw [sE, l19_, l20_, S47.mk.injEq]
  constructor
  ·rintro ⟨h1, h2⟩; exact (key l m (by omega) h1).1 h2
  ·rintro rfl; exact ⟨rfl, (key l l (by omega) rfl).2 rfl⟩
theorem sE_iff {a b : S47} : sE a b = true ↔ a = b := sE_iff_aux _ a b (Nat.le_refl _)
def srtB (s : S47) : Bool := decide (sN s ≤ 60) && decide (sD s ≤ 30) && sF s
theorem nodes_ev (N : Nat) : ∀ t : S47, sN t ≤ N → ∀ m : Nat, m ≤ 1000000 → Ev (fun k => Q.virgationref01_Nodes.f k t.f0 (m : Int)) ((min (sN t) (m + 1) : Nat) : Int) := by
 induction N with
 | zero => intro t h; have := sN_pos t; omega
 | succ N ih =>
  intro t h m hm
  obtain ⟨l⟩ := t
  rw [sN] at h ⊢
  have loop : ∀ d j : Nat, l.length - j = d → j ≤ l.length → j ≤ m + 1 → Ev (fun k => Q.virgationref01_Nodes.l0 k (m : Int) ((min (sNL (l.take j) + 1) (m + 1) : Nat) : Int) (j : Int) l) ((min (sNL l + 1) (m + 1) : Nat) : Int) := by
   intro d
   induction d with
   | zero =>
    intro j hd hj hjm
    rw [show l.take j = l from List.take_of_length_le (by omega)]
    refine ev_end fun k => ?_
    simp only [Q.virgationref01_Nodes.l0]
    rw [if_neg (by omega)]
   | succ d ihd =>
    intro j hd hj hjm
    have hlt : j < l.length := by omega
    by_cases hn : sNL (l.take j) + 1 ≤ m
    ·have hmin : min (sNL (l.take j) + 1) (m + 1) = sNL (l.take j) + 1 := by omega
     have hlen : j ≤ sNL (l.take j) := by have := sLen_le (l := l.take j); rw [List.length_take] at this; omega
     have e1 := ih l[j] (by have := sN_mem (l11_ hlt); omega) (m - (sNL (l.take j) + 1)) (by omega)
     have e2 := ihd (j + 1) (by omega) (by omega) (by omega)
     have hz1 : ((m - (sNL (l.take j) + 1) : Nat) : Int) = wrap64 ((m : Int) - ((sNL (l.take j) + 1 : Nat) : Int)) := by rw [wr_id (by omega) (by omega)]; omega
     have hz2 : ((min (sNL (l.take (j + 1)) + 1) (m + 1) : Nat) : Int) = wrap64 (((sNL (l.take j) + 1 : Nat) : Int) + ((min (sN l[j]) (m - (sNL (l.take j) + 1) + 1) : Nat) : Int)) := by
      rw [takeS hlt, sNL_snoc, wr_id (by omega) (by omega)]; omega
     rw [hz1] at e1
     rw [hz2, show ((j + 1 : Nat) : Int) = wrap64 ((j : Int) + 1) from (wrap_succ (i := (j : Int)) (by omega) (by omega)).symm] at e2
     rw [hmin]
     refine ev_next (Ev.bind (f := fun k t => Q.virgationref01_Nodes.l0 k (m : Int) (wrap64 (((sNL (l.take j) + 1 : Nat) : Int) + t)) (wrap64 ((j : Int) + 1)) l) e1 e2) fun k => ?_
     simp only [Q.virgationref01_Nodes.l0]
     rw [if_pos (by omega), if_pos (by omega), if_pos (by omega), rdS_at hlt]
    ·have h1 := sNL_take l j
     refine ev_end fun k => ?_
     simp only [Q.virgationref01_Nodes.l0]
     rw [if_pos (by omega), if_neg (by omega)]
     congr 1; omega
  have e := loop l.length 0 (by omega) (by omega) (by omega)
  rw [List.take_zero, sNL] at e
  refine ev_next e fun k => ?_
  simp only [Q.virgationref01_Nodes.f]
  rw [show ((min (0 + 1) (m + 1) : Nat) : Int) = 1 by omega]; rfl
theorem mx_nat (a b : Nat) : mx (a : Int) (b : Int) = ((max a b : Nat) : Int) := by unfold mx; split <;> omega
theorem depth_ev (N : Nat) : ∀ t : S47, sN t ≤ N → N ≤ 1000000 → Ev (fun k => Q.virgationref01_depth.f k t.f0) (sD t : Int) := by
 induction N with
 | zero => intro t h; have := sN_pos t; omega
 | succ N ih =>
  intro t h hN
  obtain ⟨l⟩ := t
  rw [sN] at h
  have hll := sLen_le (l := l)
  have loop : ∀ d j : Nat, l.length - j = d → j ≤ l.length → Ev (fun k => Q.virgationref01_depth.l0 k (sDL (l.take j) : Int) l (l.length : Int) (j : Int)) ((sDL l + 1 : Nat) : Int) := by
   intro d
   induction d with
   | zero =>
    intro j hd hj
    rw [show l.take j = l from List.take_of_length_le (by omega)]
    have := sDL_le l
    refine ev_end fun k => ?_
    simp only [Q.virgationref01_depth.l0]
    rw [if_neg (by omega), wrap_succ (by omega) (by omega)]; rfl
   | succ d ihd =>
    intro j hd hj
    have hlt : j < l.length := by omega
    have e1 := ih l[j] (by have := sN_mem (l11_ hlt); omega) (by omega)
    have e2 := ihd (j + 1) (by omega) (by omega)
    rw [show ((j + 1 : Nat) : Int) = wrap64 ((j : Int) + 1) from (wrap_succ (i := (j : Int)) (by omega) (by omega)).symm, takeS hlt, sDL_snoc, ← mx_nat] at e2
    refine ev_next (Ev.bind (f := fun k t => Q.virgationref01_depth.l0 k (mx (sDL (l.take j) : Int) t) l (l.length : Int) (wrap64 ((j : Int) + 1))) e1 e2) fun k => ?_
    simp only [Q.virgationref01_depth.l0]
    rw [if_pos (by omega), if_pos (by omega), if_pos (by omega), rdS_at hlt]
  have e := loop l.length 0 (by omega) (by omega)
  rw [List.take_zero, sDL] at e
  rw [sD]
  exact ev_next e fun k => by simp only [Q.virgationref01_depth.f]; rfl
theorem few_ev (N : Nat) : ∀ t : S47, sN t ≤ N → N ≤ 1000000 → Ev (fun k => Q.virgationref01_few.f k t.f0) (sF t) := by
 induction N with
 | zero => intro t h; have := sN_pos t; omega
 | succ N ih =>
  intro t h hN
  obtain ⟨l⟩ := t
  rw [sN] at h
  have hll := sLen_le (l := l)
  have loop : ∀ d j : Nat, l.length - j = d → j ≤ l.length → Ev (fun k => Q.virgationref01_few.l0 k l (l.length : Int) (j : Int) l) (sFL (l.drop j) && decide (l.length ≤ 8)) := by
   intro d
   induction d with
   | zero =>
    intro j hd hj
    refine ev_end fun k => ?_
    simp only [Q.virgationref01_few.l0]
    rw [if_neg (by omega), l15_ (by omega), sFL, Bool.true_and]
    congr 1
    exact decide_eq_decide.2 (by omega)
   | succ d ihd =>
    intro j hd hj
    have hlt : j < l.length := by omega
    rw [dropS hlt, sFL]
    have e1 := ih l[j] (by have := sN_mem (l11_ hlt); omega) (by omega)
    have e2 := ihd (j + 1) (by omega) (by omega)
    rw [show ((j + 1 : Nat) : Int) = wrap64 ((j : Int) + 1) from (wrap_succ (i := (j : Int)) (by omega) (by omega)).symm] at e2
    refine ev_next (Ev.bind (f := fun k t => if t = true then Q.virgationref01_few.l0 k l (l.length : Int) (wrap64 ((j : Int) + 1)) l else some false) e1 ?_) fun k => ?_
    ·cases sF l[j] with
     | true => simpa using e2
     | false => simpa using Ev.now false
    ·simp only [Q.virgationref01_few.l0]
     rw [if_pos (by omega), if_pos (by omega), if_pos (by omega), rdS_at hlt]
  have e := loop l.length 0 (by omega) (by omega)
  rw [List.drop_zero] at e
  rw [sF]
  exact ev_next e fun k => by simp only [Q.virgationref01_few.f]; rfl
theorem is_ev (t : S47) : Ev (fun k => Q.virgationref01_Is.f k t.f0) (srtB t) := by
 have e1 := nodes_ev (sN t) t (Nat.le_refl _) 60 (by omega)
 refine Ev.congr (fun k => by unfold Q.virgationref01_Is.f; rfl) (Ev.bind (f := fun k t197 => if t197 ≤ 60 then ((Q.virgationref01_depth.f k t.f0).bind fun t198 => (if t198 ≤ 30 then ((Q.virgationref01_few.f k t.f0).bind fun t199 => (some t199)) else (some false))) else (some false)) e1 ?_)
 unfold srtB
 by_cases h : sN t ≤ 60
 ·have h1 : ((min (sN t) (60 + 1) : Nat) : Int) ≤ 60 := by omega
  simp only [if_pos h1, l2_ h, Bool.true_and]
  refine Ev.bind (f := fun k t198 => if t198 ≤ 30 then ((Q.virgationref01_few.f k t.f0).bind fun t199 => (some t199)) else (some false)) (depth_ev 60 t h (by omega)) ?_
  by_cases h2 : sD t ≤ 30
  ·have h3 : (sD t : Int) ≤ 30 := by omega
   simp only [if_pos h3, l2_ h2, Bool.true_and]
   exact Ev.bind (f := fun _ t199 => some t199) (few_ev 60 t h (by omega)) (Ev.now _)
  ·have h3 : ¬ (sD t : Int) ≤ 30 := by omega
   simp only [if_neg h3, l3_ h2, Bool.false_and]
   exact Ev.now _
 ·have h1 : ¬ ((min (sN t) (60 + 1) : Nat) : Int) ≤ 60 := by omega
  simp only [if_neg h1, l3_ h, Bool.false_and]
  exact Ev.now _
theorem sEL_drop {l m : List S47} {j : Nat} (h1 : j < l.length) (h2 : j < m.length) : sEL (l.drop j) (m.drop j) = (sE l[j] m[j] && sEL (l.drop (j + 1)) (m.drop (j + 1))) := by
 rw [dropS h1, dropS h2, sEL]
theorem equal_ev (N : Nat) : ∀ a b : S47, sN a ≤ N → N ≤ 1000000 → Ev (fun k => Q.virgationref01_Equal.f k a.f0 b.f0) (sE a b) := by
 induction N with
 | zero => intro t _ h; have := sN_pos t; omega
 | succ N ih =>
  intro a b h hN
  obtain ⟨l⟩ := a
  obtain ⟨m⟩ := b
  rw [sN] at h
  have hll := sLen_le (l := l)
  rw [sE]
  by_cases hl : l.length = m.length
  ·rw [l2_ hl, Bool.true_and]
   have loop : ∀ d j : Nat, l.length - j = d → j ≤ l.length → Ev (fun k => Q.virgationref01_Equal.l0 k (l.length : Int) (j : Int) l m) (sEL (l.drop j) (m.drop j)) := by
    intro d
    induction d with
    | zero =>
     intro j hd hj
     refine ev_end fun k => ?_
     simp only [Q.virgationref01_Equal.l0]
     rw [if_neg (by omega), l15_ (by omega), sEL]
    | succ d ihd =>
     intro j hd hj
     have hlt : j < l.length := by omega
     have hlt2 : j < m.length := by omega
     rw [sEL_drop hlt hlt2]
     have e1 := ih l[j] m[j] (by have := sN_mem (l11_ hlt); omega) (by omega)
     have e2 := ihd (j + 1) (by omega) (by omega)
     rw [show ((j + 1 : Nat) : Int) = wrap64 ((j : Int) + 1) from (wrap_succ (i := (j : Int)) (by omega) (by omega)).symm] at e2
     refine ev_next (Ev.bind (f := fun k t => if t = true then Q.virgationref01_Equal.l0 k (l.length : Int) (wrap64 ((j : Int) + 1)) l m else some false) e1 ?_) fun k => ?_
     ·cases sE l[j] m[j] with
      | true => simpa using e2
      | false => simpa using Ev.now false
     ·simp only [Q.virgationref01_Equal.l0]
      rw [if_pos (by omega), if_pos (by omega), if_pos (by omega), if_pos (by omega), rdS_at hlt, rdS_at hlt2]
   have e := loop l.length 0 (by omega) (by omega)
   rw [List.drop_zero, List.drop_zero] at e
   exact ev_next e fun k => by simp only [Q.virgationref01_Equal.f]; rw [if_pos (by omega)]; rfl
  ·rw [l3_ hl, Bool.false_and]
   exact ev_end fun k => by simp only [Q.virgationref01_Equal.f]; rw [if_neg (by omega)]
theorem same_ev (N : Nat) : ∀ a b : S47, sN a ≤ N → N ≤ 1000000 → Ev (fun k => Q.sorts_same.f k a.f0 b.f0) (sE a b) := by
 induction N with
 | zero => intro t _ h; have := sN_pos t; omega
 | succ N ih =>
  intro a b h hN
  obtain ⟨l⟩ := a
  obtain ⟨m⟩ := b
  rw [sN] at h
  have hll := sLen_le (l := l)
  rw [sE]
  by_cases hl : l.length = m.length
  ·rw [l2_ hl, Bool.true_and]
   have loop : ∀ d j : Nat, l.length - j = d → j ≤ l.length → Ev (fun k => Q.sorts_same.l0 k (l.length : Int) (j : Int) l m) (sEL (l.drop j) (m.drop j)) := by
    intro d
    induction d with
    | zero =>
     intro j hd hj
     refine ev_end fun k => ?_
     simp only [Q.sorts_same.l0]
     rw [if_neg (by omega), l15_ (by omega), sEL]
    | succ d ihd =>
     intro j hd hj
     have hlt : j < l.length := by omega
     have hlt2 : j < m.length := by omega
     rw [sEL_drop hlt hlt2]
     have e1 := ih l[j] m[j] (by have := sN_mem (l11_ hlt); omega) (by omega)
     have e2 := ihd (j + 1) (by omega) (by omega)
     rw [show ((j + 1 : Nat) : Int) = wrap64 ((j : Int) + 1) from (wrap_succ (i := (j : Int)) (by omega) (by omega)).symm] at e2
     refine ev_next (Ev.bind (f := fun k t => if t = true then Q.sorts_same.l0 k (l.length : Int) (wrap64 ((j : Int) + 1)) l m else some false) e1 ?_) fun k => ?_
     ·cases sE l[j] m[j] with
      | true => simpa using e2
      | false => simpa using Ev.now false
     ·simp only [Q.sorts_same.l0]
      rw [if_pos (by omega), if_pos (by omega), if_pos (by omega), if_pos (by omega), rdS_at hlt, rdS_at hlt2]
   have e := loop l.length 0 (by omega) (by omega)
   rw [List.drop_zero, List.drop_zero] at e
   exact ev_next e fun k => by simp only [Q.sorts_same.f]; rw [if_pos (by omega)]; rfl
  ·rw [l3_ hl, Bool.false_and]
   exact ev_end fun k => by simp only [Q.sorts_same.f]; rw [if_neg (by omega)]
theorem order_ev (N : Nat) : ∀ t : S47, sN t ≤ N → N ≤ 1000000 → Ev (fun k => Q.sorts_order.f k t.f0) (sO t : Int) := by
 induction N with
 | zero => intro t h; have := sN_pos t; omega
 | succ N ih =>
  intro t h hN
  obtain ⟨l⟩ := t
  rw [sN] at h
  have hll := sLen_le (l := l)
  have loop : ∀ d j : Nat, l.length - j = d → j ≤ l.length → Ev (fun k => Q.sorts_order.l0 k (sOL (l.take j) : Int) l (l.length : Int) (j : Int)) (sOL l : Int) := by
   intro d
   induction d with
   | zero =>
    intro j hd hj
    rw [show l.take j = l from List.take_of_length_le (by omega)]
    refine ev_end fun k => ?_
    simp only [Q.sorts_order.l0]
    rw [if_neg (by omega)]
   | succ d ihd =>
    intro j hd hj
    have hlt : j < l.length := by omega
    have hm := sN_mem (l11_ hlt)
    have e1 := ih l[j] (by omega) (by omega)
    have e2 := ihd (j + 1) (by omega) (by omega)
    have ho := sO_le l[j]
    rw [show ((j + 1 : Nat) : Int) = wrap64 ((j : Int) + 1) from (wrap_succ (i := (j : Int)) (by omega) (by omega)).symm, takeS hlt, sOL_snoc, ← mx_nat, show ((sO l[j] + 1 : Nat) : Int) = wrap64 ((sO l[j] : Int) + 1) by rw [wr_id (by omega) (by omega)]; omega] at e2
    refine ev_next (Ev.bind (f := fun k t => Q.sorts_order.l0 k (mx (sOL (l.take j) : Int) (wrap64 (t + 1))) l (l.length : Int) (wrap64 ((j : Int) + 1))) e1 e2) fun k => ?_
    simp only [Q.sorts_order.l0]
    rw [if_pos (by omega), if_pos (by omega), if_pos (by omega), rdS_at hlt]
  have e := loop l.length 0 (by omega) (by omega)
  rw [List.take_zero, sOL] at e
  rw [sO]
  exact ev_next e fun k => by simp only [Q.sorts_order.f]; rfl
mutual
def tN : S50 → Nat
 | ⟨_, _, l⟩ => tNL l + 1
def tNL : List S50 → Nat
 | [] => 0
 | t :: r => tN t + tNL r
end
mutual
def tD : S50 → Nat
 | ⟨_, _, l⟩ => tDL l + 1
def tDL : List S50 → Nat
 | [] => 0
 | t :: r => max (tD t) (tDL r)
end
mutual
def tE : S50 → S50 → Bool
 | ⟨x, y, l⟩, ⟨u, v, m⟩ => decide (x = u) && decide (y = v) && decide (l.length = m.length) && tEL l m
def tEL : List S50 → List S50 → Bool
 | [], _ => true
 | _ :: _, [] => false
 | a :: r, b :: s => tE a b && tEL r s
end
theorem tN_pos (t : S50) : 1 ≤ tN t := by cases t; rw [tN]; omega
theorem tN_mem {l : List S50} {t : S50} (h : t ∈ l) : tN t ≤ tNL l := by
 induction l with
 | nil => cases h
 | cons a r ih =>
  rw [tNL]
  rcases List.mem_cons.1 h with rfl | h
  ·omega
  ·have := ih h; omega
theorem tLen_le {l : List S50} : l.length ≤ tNL l := by
 induction l with
 | nil => simp
 | cons a r ih => rw [tNL, l8_]; have := tN_pos a; omega
theorem tD_le_aux (n : Nat) : ∀ t : S50, tN t ≤ n → tD t ≤ tN t := by
 induction n with
 | zero => intro t h; have := tN_pos t; omega
 | succ n ih =>
  intro t h
  obtain ⟨x, y, l⟩ := t
  rw [tN] at h ⊢
  rw [tD]
  have : ∀ l : List S50, tNL l ≤ n → tDL l ≤ tNL l := by
   intro l
   induction l with
   | nil => intro _; simp [tDL]
   | cons a r ihr =>
    intro h
    rw [tNL] at h ⊢
    rw [tDL]
    have h1 := ih a (by omega)
    have h2 := ihr (by omega)
    omega
  have := this l (by omega)
  omega
theorem tD_le (t : S50) : tD t ≤ tN t := tD_le_aux _ t (Nat.le_refl _)
theorem tDL_le (l : List S50) : tDL l ≤ tNL l := by
 induction l with
 | nil => simp [tDL]
 | cons a r ih => rw [tDL, tNL]; have := tD_le a; omega
theorem tNL_snoc (a : List S50) (x : S50) : tNL (a ++ [x]) = tNL a + tN x := by
 induction a with
 | nil => simp [tNL]
 | cons y r ih => rw [List.cons_append, tNL, tNL, ih]; omega
theorem tDL_snoc (a : List S50) (x : S50) : tDL (a ++ [x]) = max (tDL a) (tD x) := by
 induction a with
 | nil => simp [tDL]
 | cons y r ih => rw [List.cons_append, tDL, tDL, ih]; omega
theorem tNL_take (l : List S50) (j : Nat) : tNL (l.take j) ≤ tNL l := by
 induction l generalizing j with
 | nil => simp
 | cons a r ih =>
  cases j with
  | zero => simp [tNL]
  | succ j => rw [List.take_succ_cons, tNL, tNL]; have := ih j; omega
theorem rdT_at {l : List S50} {j : Nat} (h : j < l.length) : rd_T50 l (j : Int) = l[j] := by simp [rd_T50, l18_, l17_ h]
theorem tE_iff_aux (n : Nat) : ∀ a b : S50, tN a ≤ n → (tE a b = true ↔ a = b) := by
 induction n with
 | zero => intro t _ h; have := tN_pos t; omega
 | succ n ih =>
  intro a b h
  obtain ⟨x, y, l⟩ := a
  obtain ⟨u, v, m⟩ := b
  rw [tN] at h
  have key : ∀ l m : List S50, tNL l ≤ n → l.length = m.length → (tEL l m = true ↔ l = m) := by
   intro l
   induction l with
   | nil => intro m _ hl; cases m with
    | nil => simp [tEL]
    | cons => simp at hl
   | cons a r ihr =>
    intro m h hl
    cases m with
    | nil => simp at hl
    | cons b s =>
     rw [tNL] at h
     rw [tEL, l19_, ih a b (by omega), ihr s (by omega) (by simpa using hl)]
     simp
  rw [tE]
  simp only [l19_, l20_, S50.mk.injEq]
  constructor
  ·rintro ⟨⟨⟨h0, h00⟩, h1⟩, h2⟩; exact ⟨h0, h00, (key l m (by omega) h1).1 h2⟩
  ·rintro ⟨rfl, rfl, rfl⟩; exact ⟨⟨⟨rfl, rfl⟩, rfl⟩, (key l l (by omega) rfl).2 rfl⟩
theorem tE_iff {a b : S50} : tE a b = true ↔ a = b := tE_iff_aux _ a b (Nat.le_refl _)
theorem tnodes_ev (N : Nat) : ∀ t : S50, tN t ≤ N → ∀ m : Nat, m ≤ 1000000 → Ev (fun k => Q.virgationref02_Nodes.f k t.f0 t.f1 t.f2 (m : Int)) ((min (tN t) (m + 1) : Nat) : Int) := by
 induction N with
 | zero => intro t h; have := tN_pos t; omega
 | succ N ih =>
  intro t h m hm
  obtain ⟨x, y, l⟩ := t
  rw [tN] at h ⊢
  have loop : ∀ d j : Nat, l.length - j = d → j ≤ l.length → j ≤ m + 1 → Ev (fun k => Q.virgationref02_Nodes.l0 k (m : Int) ((min (tNL (l.take j) + 1) (m + 1) : Nat) : Int) (j : Int) x y l) ((min (tNL l + 1) (m + 1) : Nat) : Int) := by
   intro d
   induction d with
   | zero =>
    intro j hd hj hjm
    rw [show l.take j = l from List.take_of_length_le (by omega)]
    refine ev_end fun k => ?_
    simp only [Q.virgationref02_Nodes.l0]
    rw [if_neg (by omega)]
   | succ d ihd =>
    intro j hd hj hjm
    have hlt : j < l.length := by omega
    by_cases hn : tNL (l.take j) + 1 ≤ m
    ·have hmin : min (tNL (l.take j) + 1) (m + 1) = tNL (l.take j) + 1 := by omega
     have hlen : j ≤ tNL (l.take j) := by have := tLen_le (l := l.take j); rw [List.length_take] at this; omega
     have e1 := ih l[j] (by have := tN_mem (l11_ hlt); omega) (m - (tNL (l.take j) + 1)) (by omega)
     have e2 := ihd (j + 1) (by omega) (by omega) (by omega)
     have hz1 : ((m - (tNL (l.take j) + 1) : Nat) : Int) = wrap64 ((m : Int) - ((tNL (l.take j) + 1 : Nat) : Int)) := by rw [wr_id (by omega) (by omega)]; omega
     have hz2 : ((min (tNL (l.take (j + 1)) + 1) (m + 1) : Nat) : Int) = wrap64 (((tNL (l.take j) + 1 : Nat) : Int) + ((min (tN l[j]) (m - (tNL (l.take j) + 1) + 1) : Nat) : Int)) := by
      rw [takeS hlt, tNL_snoc, wr_id (by omega) (by omega)]; omega
     rw [hz1] at e1
     rw [hz2, show ((j + 1 : Nat) : Int) = wrap64 ((j : Int) + 1) from (wrap_succ (i := (j : Int)) (by omega) (by omega)).symm] at e2
     rw [hmin]
     refine ev_next (Ev.bind (f := fun k t => Q.virgationref02_Nodes.l0 k (m : Int) (wrap64 (((tNL (l.take j) + 1 : Nat) : Int) + t)) (wrap64 ((j : Int) + 1)) x y l) e1 e2) fun k => ?_
     simp only [Q.virgationref02_Nodes.l0]
     rw [if_pos (by omega), if_pos (by omega), if_pos (by omega), rdT_at hlt]
    ·have h1 := tNL_take l j
     refine ev_end fun k => ?_
     simp only [Q.virgationref02_Nodes.l0]
     rw [if_pos (by omega), if_neg (by omega)]
     congr 1; omega
  have e := loop l.length 0 (by omega) (by omega) (by omega)
  rw [List.take_zero, tNL] at e
  refine ev_next e fun k => ?_
  simp only [Q.virgationref02_Nodes.f]
  rw [show ((min (0 + 1) (m + 1) : Nat) : Int) = 1 by omega]; rfl
theorem tdepth_ev (N : Nat) : ∀ t : S50, tN t ≤ N → N ≤ 1000000 → Ev (fun k => Q.virgationref02_Depth.f k t.f0 t.f1 t.f2) (tD t : Int) := by
 induction N with
 | zero => intro t h; have := tN_pos t; omega
 | succ N ih =>
  intro t h hN
  obtain ⟨x, y, l⟩ := t
  rw [tN] at h
  have hll := tLen_le (l := l)
  have loop : ∀ d j : Nat, l.length - j = d → j ≤ l.length → Ev (fun k => Q.virgationref02_Depth.l0 k (tDL (l.take j) : Int) l (l.length : Int) (j : Int)) ((tDL l + 1 : Nat) : Int) := by
   intro d
   induction d with
   | zero =>
    intro j hd hj
    rw [show l.take j = l from List.take_of_length_le (by omega)]
    have := tDL_le l
    refine ev_end fun k => ?_
    simp only [Q.virgationref02_Depth.l0]
    rw [if_neg (by omega), wrap_succ (by omega) (by omega)]; rfl
   | succ d ihd =>
    intro j hd hj
    have hlt : j < l.length := by omega
    have e1 := ih l[j] (by have := tN_mem (l11_ hlt); omega) (by omega)
    have e2 := ihd (j + 1) (by omega) (by omega)
    rw [show ((j + 1 : Nat) : Int) = wrap64 ((j : Int) + 1) from (wrap_succ (i := (j : Int)) (by omega) (by omega)).symm, takeS hlt, tDL_snoc, ← mx_nat] at e2
    refine ev_next (Ev.bind (f := fun k t => Q.virgationref02_Depth.l0 k (mx (tDL (l.take j) : Int) t) l (l.length : Int) (wrap64 ((j : Int) + 1))) e1 e2) fun k => ?_
    simp only [Q.virgationref02_Depth.l0]
    rw [if_pos (by omega), if_pos (by omega), if_pos (by omega), rdT_at hlt]
  have e := loop l.length 0 (by omega) (by omega)
  rw [List.take_zero, tDL] at e
  rw [tD]
  exact ev_next e fun k => by simp only [Q.virgationref02_Depth.f]; rfl
theorem tEL_drop {l m : List S50} {j : Nat} (h1 : j < l.length) (h2 : j < m.length) : tEL (l.drop j) (m.drop j) = (tE l[j] m[j] && tEL (l.drop (j + 1)) (m.drop (j + 1))) := by
 rw [dropS h1, dropS h2, tEL]
theorem tequal_ev (N : Nat) : ∀ a b : S50, tN a ≤ N → N ≤ 1000000 → Ev (fun k => Q.virgationref02_Equal.f k a.f0 a.f1 a.f2 b.f0 b.f1 b.f2) (tE a b) := by
 induction N with
 | zero => intro t _ h; have := tN_pos t; omega
 | succ N ih =>
  intro a b h hN
  obtain ⟨x, y, l⟩ := a
  obtain ⟨u, v, m⟩ := b
  rw [tN] at h
  have hll := tLen_le (l := l)
  rw [tE]
  by_cases h1 : x = u
  case neg =>
   rw [l3_ h1]
   simp only [Bool.false_and]
   exact ev_next (f := fun k => Q.virgationref02_Equal.j0 k true x y l u v m) (ev_end fun k => by simp only [Q.virgationref02_Equal.j0]; rfl) fun k => by simp only [Q.virgationref02_Equal.f]; rw [if_neg h1]
  by_cases h2 : y = v
  case neg =>
   rw [l3_ h2]
   simp only [Bool.false_and, Bool.and_false]
   exact ev_next (f := fun k => Q.virgationref02_Equal.j0 k true x y l u v m) (ev_end fun k => by simp only [Q.virgationref02_Equal.j0]; rfl) fun k => by simp only [Q.virgationref02_Equal.f]; rw [if_pos h1, if_neg h2]
  rw [l2_ h1, l2_ h2, Bool.true_and, Bool.true_and]
  by_cases hl : l.length = m.length
  ·rw [l2_ hl, Bool.true_and]
   have loop : ∀ d j : Nat, l.length - j = d → j ≤ l.length → Ev (fun k => Q.virgationref02_Equal.l0 k (l.length : Int) (j : Int) x y l u v m) (tEL (l.drop j) (m.drop j)) := by
    intro d
    induction d with
    | zero =>
     intro j hd hj
     refine ev_end fun k => ?_
     simp only [Q.virgationref02_Equal.l0]
     rw [if_neg (by omega), l15_ (by omega), tEL]
    | succ d ihd =>
     intro j hd hj
     have hlt : j < l.length := by omega
     have hlt2 : j < m.length := by omega
     rw [tEL_drop hlt hlt2]
     have e1 := ih l[j] m[j] (by have := tN_mem (l11_ hlt); omega) (by omega)
     have e2 := ihd (j + 1) (by omega) (by omega)
     rw [show ((j + 1 : Nat) : Int) = wrap64 ((j : Int) + 1) from (wrap_succ (i := (j : Int)) (by omega) (by omega)).symm] at e2
     refine ev_next (Ev.bind (f := fun k t => if t = true then Q.virgationref02_Equal.l0 k (l.length : Int) (wrap64 ((j : Int) + 1)) x y l u v m else some false) e1 ?_) fun k => ?_
     ·cases tE l[j] m[j] with
      | true => simpa using e2
      | false => simpa using Ev.now false
     ·simp only [Q.virgationref02_Equal.l0]
      rw [if_pos (by omega), if_pos (by omega), if_pos (by omega), if_pos (by omega), rdT_at hlt, rdT_at hlt2]
   have e := loop l.length 0 (by omega) (by omega)
   rw [List.drop_zero, List.drop_zero] at e
   exact ev_next (ev_next (g := fun k => Q.virgationref02_Equal.j0 k false x y l u v m) e fun k => by simp only [Q.virgationref02_Equal.j0]; rfl) fun k => by simp only [Q.virgationref02_Equal.f]; rw [if_pos h1, if_pos h2, show ((l.length : Int) != (m.length : Int)) = false from bne_eq_false_iff_eq.2 (by omega)]
  ·rw [l3_ hl, Bool.false_and]
   exact ev_next (f := fun k => Q.virgationref02_Equal.j0 k true x y l u v m) (ev_end fun k => by simp only [Q.virgationref02_Equal.j0]; rfl) fun k => by simp only [Q.virgationref02_Equal.f]; rw [if_pos h1, if_pos h2, show ((l.length : Int) != (m.length : Int)) = true from bne_iff_ne.2 (by omega)]
theorem tsame_ev (N : Nat) : ∀ a b : S50, tN a ≤ N → N ≤ 1000000 → Ev (fun k => Q.term_same.f k a.f0 a.f1 a.f2 b.f0 b.f1 b.f2) (tE a b) := by
 induction N with
 | zero => intro t _ h; have := tN_pos t; omega
 | succ N ih =>
  intro a b h hN
  obtain ⟨x, y, l⟩ := a
  obtain ⟨u, v, m⟩ := b
  rw [tN] at h
  have hll := tLen_le (l := l)
  rw [tE]
  by_cases h1 : x = u
  case neg =>
   rw [l3_ h1]
   simp only [Bool.false_and]
   exact ev_next (f := fun k => Q.term_same.j0 k true x y l u v m) (ev_end fun k => by simp only [Q.term_same.j0]; rfl) fun k => by simp only [Q.term_same.f]; rw [if_neg h1]
  by_cases h2 : y = v
  case neg =>
   rw [l3_ h2]
   simp only [Bool.false_and, Bool.and_false]
   exact ev_next (f := fun k => Q.term_same.j0 k true x y l u v m) (ev_end fun k => by simp only [Q.term_same.j0]; rfl) fun k => by simp only [Q.term_same.f]; rw [if_pos h1, if_neg h2]
  rw [l2_ h1, l2_ h2, Bool.true_and, Bool.true_and]
  by_cases hl : l.length = m.length
  ·rw [l2_ hl, Bool.true_and]
   have loop : ∀ d j : Nat, l.length - j = d → j ≤ l.length → Ev (fun k => Q.term_same.l0 k (l.length : Int) (j : Int) x y l u v m) (tEL (l.drop j) (m.drop j)) := by
    intro d
    induction d with
    | zero =>
     intro j hd hj
     refine ev_end fun k => ?_
     simp only [Q.term_same.l0]
     rw [if_neg (by omega), l15_ (by omega), tEL]
    | succ d ihd =>
     intro j hd hj
     have hlt : j < l.length := by omega
     have hlt2 : j < m.length := by omega
     rw [tEL_drop hlt hlt2]
     have e1 := ih l[j] m[j] (by have := tN_mem (l11_ hlt); omega) (by omega)
     have e2 := ihd (j + 1) (by omega) (by omega)
     rw [show ((j + 1 : Nat) : Int) = wrap64 ((j : Int) + 1) from (wrap_succ (i := (j : Int)) (by omega) (by omega)).symm] at e2
     refine ev_next (Ev.bind (f := fun k t => if t = true then Q.term_same.l0 k (l.length : Int) (wrap64 ((j : Int) + 1)) x y l u v m else some false) e1 ?_) fun k => ?_
     ·cases tE l[j] m[j] with
      | true => simpa using e2
      | false => simpa using Ev.now false
     ·simp only [Q.term_same.l0]
      rw [if_pos (by omega), if_pos (by omega), if_pos (by omega), if_pos (by omega), rdT_at hlt, rdT_at hlt2]
   have e := loop l.length 0 (by omega) (by omega)
   rw [List.drop_zero, List.drop_zero] at e
   exact ev_next (ev_next (g := fun k => Q.term_same.j0 k false x y l u v m) e fun k => by simp only [Q.term_same.j0]; rfl) fun k => by simp only [Q.term_same.f]; rw [if_pos h1, if_pos h2, show ((l.length : Int) != (m.length : Int)) = false from bne_eq_false_iff_eq.2 (by omega)]
  ·rw [l3_ hl, Bool.false_and]
   exact ev_next (f := fun k => Q.term_same.j0 k true x y l u v m) (ev_end fun k => by simp only [Q.term_same.j0]; rfl) fun k => by simp only [Q.term_same.f]; rw [if_pos h1, if_pos h2, show ((l.length : Int) != (m.length : Int)) = true from bne_iff_ne.2 (by omega)]
def wch (c : UInt8) : Bool := (decide (97 ≤ c.toNat) && decide (c.toNat ≤ 122)) || (decide (48 ≤ c.toNat) && decide (c.toNat ≤ 57)) || decide (c.toNat = 95)
def lch (c : UInt8) : Bool := decide (97 ≤ c.toNat) && decide (c.toNat ≤ 122)
def nameL (l : List UInt8) : Bool := decide (1 ≤ l.length) && decide (l.length ≤ 24) && lch (l.headD 0) && l.all wch
def nameB (s : ByteArray) : Bool := nameL s.data.toList
theorem size_list (s : ByteArray) : s.size = s.data.toList.length := rfl
theorem bt_list {s : ByteArray} {i : Nat} (h : i < s.data.toList.length) : bt s (i : Int) = ((s.data.toList[i].toNat : Nat) : Int) := by
 have h2 : (i : Int).toNat < s.size := by rw [l14_]; exact h
 rw [← bt_at s (i : Int) h2]
 simp only [l14_]
 rfl
theorem headD_at {l : List UInt8} (h : 0 < l.length) : l[0] = l.headD 0 := by
 cases l with
 | nil => simp at h
 | cons a r => rfl
theorem name_loop_aux {b : Int} {c : UInt8} (h : b = ((c.toNat : Nat) : Int)) {α : Type} (x y : α) : (if b < 97 then (if b < 48 then (if b = 95 then x else y) else (if b > 57 then (if b = 95 then x else y) else x)) else (if b > 122 then (if b < 48 then (if b = 95 then x else y) else (if b > 57 then (if b = 95 then x else y) else x)) else x)) = if wch c = true then x else y := by
 unfold wch
 simp only [Bool.or_eq_true, l19_, l20_]
 subst h
 repeat' split
 all_goals first | rfl | (exfalso; omega)
theorem tname_ev (s : ByteArray) : Ev (fun k => Q.term_Name.f k s) (nameB s) := by
 have hno : Ev (fun k => Q.term_Name.j0 k s true) false := ev_end fun k => by simp [Q.term_Name.j0]
 by_cases h0 : s.data.toList.length = 0
 ·unfold nameB nameL
  rw [l3_ (by omega)]
  simp only [Bool.false_and]
  exact Ev.congr (fun k => by unfold Q.term_Name.f; rw [if_pos (by rw [size_list]; omega)]) hno
 by_cases h1 : s.data.toList.length ≤ 24
 case neg =>
  unfold nameB nameL
  rw [l3_ h1]
  simp only [Bool.false_and, Bool.and_false]
  exact Ev.congr (fun k => by unfold Q.term_Name.f; rw [if_neg (by rw [size_list]; omega), if_pos (by rw [size_list]; omega)]) hno
 have hb : bt s 0 = (((s.data.toList.headD 0).toNat : Nat) : Int) := by
  have h2 : 0 < s.data.toList.length := by omega
  have := bt_list (s := s) (i := 0) h2
  rw [show ((0 : Nat) : Int) = 0 from rfl] at this
  rw [this, headD_at h2]
 have hj : Ev (fun k => Q.term_Name.f k s) (nameB s) ↔ Ev (fun k => Q.term_Name.j0 k s (!lch (s.data.toList.headD 0))) (nameB s) := by
  have : (fun k => Q.term_Name.f k s) = fun k => Q.term_Name.j0 k s (!lch (s.data.toList.headD 0)) := by
   funext k
   unfold Q.term_Name.f
   rw [if_neg (by rw [size_list]; omega), if_neg (by rw [size_list]; omega), if_pos (by rw [size_list]; omega), hb]
   unfold lch
   by_cases hg : ((s.data.toList.headD 0).toNat : Int) < 97
   ·rw [if_pos hg, l3_ (show ¬ 97 ≤ (s.data.toList.headD 0).toNat by omega)]; rfl
   ·rw [if_neg hg, l2_ (show 97 ≤ (s.data.toList.headD 0).toNat by omega), Bool.true_and]
    by_cases hh : (s.data.toList.headD 0).toNat ≤ 122
    ·rw [l2_ hh, l3_ (show ¬ ((s.data.toList.headD 0).toNat : Int) > 122 by omega)]; rfl
    ·rw [l3_ hh, l2_ (show ((s.data.toList.headD 0).toNat : Int) > 122 by omega)]; rfl
  rw [this]
 rw [hj]
 unfold nameB nameL
 rw [l2_ (by omega : 1 ≤ s.data.toList.length), l2_ h1, Bool.true_and, Bool.true_and]
 cases hl : lch (s.data.toList.headD 0) with
 | false => simpa using hno
 | true =>
  rw [Bool.true_and]
  have loop : ∀ d j : Nat, s.data.toList.length - j = d → j ≤ s.data.toList.length → Ev (fun k => Q.term_Name.l0 k s (s.size : Int) (j : Int)) ((s.data.toList.drop j).all wch) := by
   intro d
   induction d with
   | zero =>
    intro j hd hj
    refine ev_end fun k => ?_
    simp only [Q.term_Name.l0]
    rw [if_neg (by rw [size_list]; omega), l15_ (by omega)]; rfl
   | succ d ihd =>
    intro j hd hj
    have hlt : j < s.data.toList.length := by omega
    have e2 := ihd (j + 1) (by omega) (by omega)
    rw [show ((j + 1 : Nat) : Int) = wrap64 ((j : Int) + 1) from (wrap_succ (i := (j : Int)) (by omega) (by omega)).symm] at e2
    rw [dropS hlt, List.all_cons]
    refine ev_next (f := fun k => if wch s.data.toList[j] = true then Q.term_Name.l0 k s (s.size : Int) (wrap64 ((j : Int) + 1)) else some false) ?_ fun k => ?_
    ·cases wch s.data.toList[j] with
     | true => simpa using e2
     | false => simpa using Ev.now false
    ·simp only [Q.term_Name.l0]
     rw [if_pos (by rw [size_list]; omega), if_pos (by omega), if_pos (by rw [size_list]; omega)]
     exact name_loop_aux (bt_list hlt) _ _
  have e := loop s.data.toList.length 0 (by omega) (by omega)
  rw [List.drop_zero] at e
  exact ev_next e fun k => by simp [Q.term_Name.j0]
theorem rname_ev (s : ByteArray) : Ev (fun k => Q.virgationref02_Name.f k s) (nameB s) := by
 have hno : Ev (fun k => Q.virgationref02_Name.j0 k s true) false := ev_end fun k => by simp [Q.virgationref02_Name.j0]
 by_cases h0 : s.data.toList.length = 0
 ·unfold nameB nameL
  rw [l3_ (by omega)]
  simp only [Bool.false_and]
  exact Ev.congr (fun k => by unfold Q.virgationref02_Name.f; rw [if_pos (by rw [size_list]; omega)]) hno
 by_cases h1 : s.data.toList.length ≤ 24
 case neg =>
  unfold nameB nameL
  rw [l3_ h1]
  simp only [Bool.false_and, Bool.and_false]
  exact Ev.congr (fun k => by unfold Q.virgationref02_Name.f; rw [if_neg (by rw [size_list]; omega), if_pos (by rw [size_list]; omega)]) hno
 have hb : bt s 0 = (((s.data.toList.headD 0).toNat : Nat) : Int) := by
  have h2 : 0 < s.data.toList.length := by omega
  have := bt_list (s := s) (i := 0) h2
  rw [show ((0 : Nat) : Int) = 0 from rfl] at this
  rw [this, headD_at h2]
 have hj : Ev (fun k => Q.virgationref02_Name.f k s) (nameB s) ↔ Ev (fun k => Q.virgationref02_Name.j0 k s (!lch (s.data.toList.headD 0))) (nameB s) := by
  have : (fun k => Q.virgationref02_Name.f k s) = fun k => Q.virgationref02_Name.j0 k s (!lch (s.data.toList.headD 0)) := by
   funext k
   unfold Q.virgationref02_Name.f
   rw [if_neg (by rw [size_list]; omega), if_neg (by rw [size_list]; omega), if_pos (by rw [size_list]; omega), hb]
   unfold lch
   by_cases hg : ((s.data.toList.headD 0).toNat : Int) < 97
   ·rw [if_pos hg, l3_ (show ¬ 97 ≤ (s.data.toList.headD 0).toNat by omega)]; rfl
   ·rw [if_neg hg, l2_ (show 97 ≤ (s.data.toList.headD 0).toNat by omega), Bool.true_and]
    by_cases hh : (s.data.toList.headD 0).toNat ≤ 122
    ·rw [l2_ hh, l3_ (show ¬ ((s.data.toList.headD 0).toNat : Int) > 122 by omega)]; rfl
    ·rw [l3_ hh, l2_ (show ((s.data.toList.headD 0).toNat : Int) > 122 by omega)]; rfl
  rw [this]
 rw [hj]
 unfold nameB nameL
 rw [l2_ (by omega : 1 ≤ s.data.toList.length), l2_ h1, Bool.true_and, Bool.true_and]
 cases hl : lch (s.data.toList.headD 0) with
 | false => simpa using hno
 | true =>
  rw [Bool.true_and]
  have loop : ∀ d j : Nat, s.data.toList.length - j = d → j ≤ s.data.toList.length → Ev (fun k => Q.virgationref02_Name.l0 k s (j : Int)) ((s.data.toList.drop j).all wch) := by
   intro d
   induction d with
   | zero =>
    intro j hd hj
    refine ev_end fun k => ?_
    simp only [Q.virgationref02_Name.l0]
    rw [if_neg (by rw [size_list]; omega), l15_ (by omega)]; rfl
   | succ d ihd =>
    intro j hd hj
    have hlt : j < s.data.toList.length := by omega
    have e2 := ihd (j + 1) (by omega) (by omega)
    rw [show ((j + 1 : Nat) : Int) = wrap64 ((j : Int) + 1) from (wrap_succ (i := (j : Int)) (by omega) (by omega)).symm] at e2
    rw [dropS hlt, List.all_cons]
    refine ev_next (f := fun k => if wch s.data.toList[j] = true then Q.virgationref02_Name.l0 k s (wrap64 ((j : Int) + 1)) else some false) ?_ fun k => ?_
    ·cases wch s.data.toList[j] with
     | true => simpa using e2
     | false => simpa using Ev.now false
    ·simp only [Q.virgationref02_Name.l0]
     rw [if_pos (by rw [size_list]; omega), if_pos (by omega)]
     exact name_loop_aux (bt_list hlt) _ _
  have e := loop s.data.toList.length 0 (by omega) (by omega)
  rw [List.drop_zero] at e
  exact ev_next e fun k => by simp [Q.virgationref02_Name.j0]
end Go.Proofs.YthflpbgloeimfaaGreatDoor.H
