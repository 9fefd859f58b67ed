/- What schemeOwn_calls, handed_and_shaped, own, laidOut, laid7, mx_of_shaped, arg_scheme needs, out of my texts, by a program (slim.py). -/
import Derived.Test.YthflpbgloeimfaaGreatDoorSO0
namespace Go.Proofs.YthflpbgloeimfaaGreatDoor.Q
open Go.RowKit Go.Proofs.YthflpbgloeimfaaGreatDoorW.PrintWords Go.Proofs.YthflpbgloeimfaaGreatDoorW.PrintLast Go.Proofs.YthflpbgloeimfaaGreatDoorW.PrintMore
attribute [local go_sem] max2_int min2_int max_two min_two max_three min_three max_four min_four
set_option linter.unusedVariables false
set_option linter.unusedSimpArgs false
def virgationref03_Copy.l0 : Nat → List (S52) → Int → Int → List (S71) → List (S52) → Option ((List (S71)) × (List (S52)))
 | 0, _, _, _, _, _ => none
 | k + 1, x13, x14, x15, x128000, x128001 => if x15 < x14 then (if 0 ≤ x15 then (if x15 < (x13.length : Int) then ((virgationref01_Copy.f k ((rd_T52 x13 x15).f1.f0)).bind fun t133 => ((virgationref02_Copy.f k ((rd_T52 x13 x15).f2.f0) ((rd_T52 x13 x15).f2.f1) ((rd_T52 x13 x15).f2.f2)).bind fun bt136 => (if x128001.length < 1759218604441 then (virgationref03_Copy.l0 k x13 x14 (wrap64 (x15 + 1)) x128000 (x128001 ++ [(⟨(rd_T52 x13 x15).f0, (⟨t133⟩ : S47), (⟨bt136.1, bt136.2.1, bt136.2.2⟩ : S50)⟩ : S52)])) else (none)))) else (none)) else (none)) else (some (x128000, x128001))
def virgationref03_Copy.f (k : Nat) (l0_0 : List (S71)) (l0_1 : List (S52)) : Option ((List (S71)) × (List (S52))) := if ([] : List (S71)).length + l0_0.length < 5864062014805 then (virgationref03_Copy.l0 k l0_1 (l0_1.length : Int) 0 (([] : List (S71)) ++ l0_0) ([] : List (S52))) else (none)
def virgationref03_Copy.T6 : Bool × List (List Nat × List Nat) := (true, [([], []), ([0], [0]), ([], []), ([2], [2]), ([], []), ([4], [4]), ([5], [5]), ([], []), ([7], [7]), ([8, 6], [8]), ([3, 6, 9], [3, 6, 9]), ([10], [10]), ([1, 11, 9], [1, 11]), ([0, 1, 2, 3, 4, 5, 6, 7, 8, 9, 10, 11, 12], []), ([13, 12, 12, 0, 1, 2, 3, 4, 5, 6, 7, 8, 9, 10, 11, 12], [12, 13])])
def virgationref03_Copy.B6 : List Nat := [0, 1, 0, 4, 0, 16, 48, 0, 128, 496, 1020, 2044, 4095, 8191, 16383]
theorem virgationref03_Copy.tab6 : rtab .any (opsOf Tryz.f34 6) = virgationref03_Copy.T6 := by kernel_rfl
theorem virgationref03_Copy.bits6 : waitsOk virgationref03_Copy.T6.2 virgationref03_Copy.B6 = true := by kernel_rfl
set_option maxHeartbeats 8000000 in
set_option maxRecDepth 100000 in
theorem virgationref03_Copy.calls (k : Nat) (A0_0 : Option Addr) (c0_0 : Nat) (l0_0 : List (S71)) (A0_1 : Option Addr) (c0_1 : Nat) (l0_1 : List (S52)) (r1 : List (S71)) (r2 : List (S52)) (w : World) (hr0_0 : Kd.C k71 w A0_0 l0_0.length l0_0) (hc0_0 : l0_0.length ≤ c0_0) (hr0_1 : Kd.C k52 w A0_1 l0_1.length l0_1) (hc0_1 : l0_1.length ≤ c0_1) (h : virgationref03_Copy.f k l0_0 l0_1 = some (r1, r2)) :
  Calls Tryz.prog 34 #[.agg #[.slice A0_0 l0_0.length c0_0, .slice A0_1 l0_1.length c0_1]] w fun e w' => ∃ v0_ v1_ : Value, e = .returned (.agg #[v0_, v1_]) ∧ Kd.R k71 71 w' w.heap.size (fun _ => True) v0_ r1 ∧ Kd.R k52 52 w' w.heap.size (fun _ => True) v1_ r2 ∧ Below w.heap.size w w' := by
 have hu25 := Tryz.underlying25
 have hu52 := Tryz.underlying52
 have hu47 := Tryz.underlying47
 have hu50 := Tryz.underlying50
 have HR0_0 := mk0 hr0_0
 have HC0_0 := mk0 hc0_0
 clear hr0_0 hc0_0
 have HR0_1 := mk0 hr0_1
 have HC0_1 := mk0 hc0_1
 clear hr0_1 hc0_1
 have HB := mk0 (Below.refl w.heap.size w)
 have H : (if ([] : List (S71)).length + l0_0.length < 5864062014805 then (virgationref03_Copy.l0 k l0_1 (l0_1.length : Int) 0 (([] : List (S71)) ++ l0_0) ([] : List (S52))) else (none)) = some (r1, r2) := h
 clear h
 by_cases c2 : ([] : List (S71)).length + l0_0.length < 5864062014805
 ·rw [if_pos c2] at H
  have LMc2 := mk0 c2
  clear c2
  obtain ⟨y128, hy128⟩ : ∃ y_ : List (S71), y_ = (([] : List (S71)) ++ l0_0) := ⟨_, rfl⟩
  replace H : (virgationref03_Copy.l0 k l0_1 (l0_1.length : Int) 0 y128 ([] : List (S52))) = some (r1, r2) := by first | (rw [hy128]; with_reducible exact H) | (have H2_ := (l21_ _ _).symm.trans H; rw [hy128]; with_reducible exact H2_) | (have H2_ := (l21_ _ _).symm.trans H; with_reducible exact H2_) | with_reducible exact H | (rw [hy128]; exact H) | exact H
  have Ny128 := mk0 hy128
  clear hy128
  have H' := mk0 H
  clear H
  go_enter Tryz.func34, Tryz.ntmps34
  go_wp2_with (first | ((with_reducible refine gate_dst (N := 1) rfl ?_); refine box_event ?hg (N := 1) ?hd (cs := #[.slice A0_0 l0_0.length c0_0, .slice A0_1 l0_1.length c0_1]) (t := 25) ?hr ?_; (case hd => rfl); (case hg => rfl); (case hr => first | (go_simp; done) | (go_simp; rfl)); intro gb125 hg w3 hbox hb; have n0_ := mk0 (aN_ (by repeat (first | (with_reducible first | exact HB.out | apply aA_ | apply aB_ | apply aE_) | exact HB.out)) hb); have n1_ := mk0 (hbox); have n2_ := mk0 ((by rw [hg]; exact (aL_ (by repeat (first | (with_reducible first | exact HB.out | apply aA_ | apply aB_ | apply aE_) | exact HB.out))) : w.heap.size ≤ gb125)); have n3_ := mk0 ((by rw [hg]; exact (aL_ (by repeat (first | (with_reducible first | exact HB.out | apply aA_ | apply aB_ | apply aE_) | exact HB.out))) : w.heap.size ≤ gb125)); clear HB; have HB := n0_; have BK125 := n1_; have GW125 := n2_; have GE125 := n3_; clear n0_ n1_ n2_ n3_; clear hb hbox hg) | ((with_reducible refine gate_dst (N := 2) rfl ?_); refine box_event ?hg (N := 2) ?hd (cs := #[.slice none 0 0, .slice none 0 0]) (t := 25) ?hr ?_; (case hd => rfl); (case hg => rfl); (case hr => first | (go_simp; done) | (go_simp; rfl)); intro gb126 hg w4 hbox hb; have n0_ := mk0 (aK_ (g := gb125) (o := .cells #[.slice A0_0 l0_0.length c0_0, .slice A0_1 l0_1.length c0_1] 25 (0, 0)) (by (with_reducible repeat (first | refine aF_ ?_ _ | refine aH_ ?_ | refine aD_ ?_ _)); exact BK125.out) hb); have n1_ := mk0 (aN_ (by repeat (first | (with_reducible first | exact HB.out | apply aA_ | apply aB_ | apply aE_ | refine aG_ ?_ GE125.out) | exact HB.out)) hb); have n2_ := mk0 (hbox); have n3_ := mk0 ((by rw [hg]; exact (aL_ (by repeat (first | (with_reducible first | exact HB.out | apply aA_ | apply aB_ | apply aE_ | refine aG_ ?_ GE125.out) | exact HB.out))) : w.heap.size ≤ gb126)); have n4_ := mk0 ((by rw [hg]; exact (aL_ (by repeat (first | (with_reducible first | exact HB.out | apply aA_ | apply aB_ | apply aE_ | refine aG_ ?_ GE125.out) | exact HB.out))) : w.heap.size ≤ gb126)); have n5_ := mk0 ((by rw [hg]; exact Nat.ne_of_lt (blk_lt (g := gb125) (o := .cells #[.slice A0_0 l0_0.length c0_0, .slice A0_1 l0_1.length c0_1] 25 (0, 0)) (by (with_reducible repeat (first | refine aF_ ?_ _ | refine aH_ ?_ | refine aD_ ?_ _)); exact BK125.out)) : gb125 ≠ gb126)); have n6_ := mk0 ((by rw [hg]; exact Nat.ne_of_gt (blk_lt (g := gb125) (o := .cells #[.slice A0_0 l0_0.length c0_0, .slice A0_1 l0_1.length c0_1] 25 (0, 0)) (by (with_reducible repeat (first | refine aF_ ?_ _ | refine aH_ ?_ | refine aD_ ?_ _)); exact BK125.out)) : gb126 ≠ gb125)); clear BK125; clear HB; have BK125 := n0_; have HB := n1_; have BK126 := n2_; have GW126 := n3_; have GE126 := n4_; have NB125_126 := n5_; have NB126_125 := n6_; clear n0_ n1_ n2_ n3_ n4_ n5_ n6_; clear hb hbox hg) | ((with_reducible refine gate_dst (N := 3) rfl ?_); refine box_event ?hg (N := 3) ?hd (cs := #[.slice none 0 0, .slice none 0 0]) (t := 25) ?hr ?_; (case hd => rfl); (case hg => rfl); (case hr => first | (go_simp; done) | (go_simp; rfl)); intro gb127 hg w5 hbox hb; have n0_ := mk0 (aK_ (g := gb125) (o := .cells #[.slice A0_0 l0_0.length c0_0, .slice A0_1 l0_1.length c0_1] 25 (0, 0)) (by (with_reducible repeat (first | refine aF_ ?_ _ | refine aH_ ?_ | refine aD_ ?_ _)); exact BK125.out) hb); have n1_ := mk0 (aK_ (g := gb126) (o := .cells #[.slice none 0 0, .slice none 0 0] 25 (0, 0)) (by (with_reducible repeat (first | refine aF_ ?_ _ | refine aH_ ?_ | refine aD_ ?_ _)); exact BK126.out) hb); have n2_ := mk0 (aN_ (by repeat (first | (with_reducible first | exact HB.out | apply aA_ | apply aB_ | apply aE_ | refine aG_ ?_ GE125.out | refine aG_ ?_ GE126.out) | exact HB.out)) hb); have n3_ := mk0 (hbox); have n4_ := mk0 ((by rw [hg]; exact (aL_ (by repeat (first | (with_reducible first | exact HB.out | apply aA_ | apply aB_ | apply aE_ | refine aG_ ?_ GE125.out | refine aG_ ?_ GE126.out) | exact HB.out))) : w.heap.size ≤ gb127)); have n5_ := mk0 ((by rw [hg]; exact (aL_ (by repeat (first | (with_reducible first | exact HB.out | apply aA_ | apply aB_ | apply aE_ | refine aG_ ?_ GE125.out | refine aG_ ?_ GE126.out) | exact HB.out))) : w.heap.size ≤ gb127)); have n6_ := mk0 ((by rw [hg]; exact Nat.ne_of_lt (blk_lt (g := gb125) (o := .cells #[.slice A0_0 l0_0.length c0_0, .slice A0_1 l0_1.length c0_1] 25 (0, 0)) (by (with_reducible repeat (first | refine aF_ ?_ _ | refine aH_ ?_ | refine aD_ ?_ _)); exact BK125.out)) : gb125 ≠ gb127)); have n7_ := mk0 ((by rw [hg]; exact Nat.ne_of_gt (blk_lt (g := gb125) (o := .cells #[.slice A0_0 l0_0.length c0_0, .slice A0_1 l0_1.length c0_1] 25 (0, 0)) (by (with_reducible repeat (first | refine aF_ ?_ _ | refine aH_ ?_ | refine aD_ ?_ _)); exact BK125.out)) : gb127 ≠ gb125)); have n8_ := mk0 ((by rw [hg]; exact Nat.ne_of_lt (blk_lt (g := gb126) (o := .cells #[.slice none 0 0, .slice none 0 0] 25 (0, 0)) (by (with_reducible repeat (first | refine aF_ ?_ _ | refine aH_ ?_ | refine aD_ ?_ _)); exact BK126.out)) : gb126 ≠ gb127)); have n9_ := mk0 ((by rw [hg]; exact Nat.ne_of_gt (blk_lt (g := gb126) (o := .cells #[.slice none 0 0, .slice none 0 0] 25 (0, 0)) (by (with_reducible repeat (first | refine aF_ ?_ _ | refine aH_ ?_ | refine aD_ ?_ _)); exact BK126.out)) : gb127 ≠ gb126)); clear BK125; clear BK126; clear HB; have BK125 := n0_; have BK126 := n1_; have HB := n2_; have BK127 := n3_; have GW127 := n4_; have GE127 := n5_; have NB125_127 := n6_; have NB127_125 := n7_; have NB126_127 := n8_; have NB127_126 := n9_; clear n0_ n1_ n2_ n3_ n4_ n5_ n6_ n7_ n8_ n9_; clear hb hbox hg; have hnb6 := NB127_125.out; have hnc6 := NB125_127.out; have hnb7 := NB127_126.out; have hnc7 := NB126_127.out; have hcz8_0 : w5.cell? ⟨gb127, 0, none⟩ = some (.slice none 0 0) := (aC_ BK127.out 0).trans rfl; have hcz8_1 : w5.cell? ⟨gb127, 1, none⟩ = some (.slice none 0 0) := (aC_ BK127.out 1).trans rfl; have hfz8_0 := aJ_ BK127.out 0; have hfz8_1 := aJ_ BK127.out 1; have hnb9 := NB125_126.out; have hnc9 := NB126_125.out; have hcz10_0 : w5.cell? ⟨gb125, 0, none⟩ = some (.slice A0_0 l0_0.length c0_0) := (aC_ BK125.out 0).trans rfl; have hcz10_1 : w5.cell? ⟨gb125, 1, none⟩ = some (.slice A0_1 l0_1.length c0_1) := (aC_ BK125.out 1).trans rfl; have hfz10_0 := aJ_ BK125.out 0; have hfz10_1 := aJ_ BK125.out 1) | ((with_reducible refine gate_builtin (b := .append) (xs := #[.tmp 7, .tmp 9]) rfl ?_); at_builtin; refine Kd.R_append_rows k71 (w0 := w) w.heap.size rfl (.tmp 7) (.tmp 9) 22 71 (.agg #[(.string ⟨#[]⟩), (.int .i64 0)]) 24 rfl Tryz.underlying22 info71 rfl (by decide) (by omega) (.slice none 0 0) ([] : List (S71)) l0_0 _ _ _ (fun _ => True) (fun _ => False) rfl rfl ?aO ?aR (fun _ _ h => h) (fun _ h => h.elim) ?aF ?aB ?aS ?aL ?_; (case aR => repeat (first | exact (Kd.C_below HR0_0.out HB.out) | (with_reducible refine Kd.C_alloc ?_ _) | (with_reducible refine Kd.C_drewN ?_ _) | (with_reducible refine Kd.C_drew ?_))); (case aB => exact (by repeat (first | (with_reducible first | exact HB.out | apply aA_ | apply aB_ | apply aE_ | refine aG_ ?_ GE125.out | refine aG_ ?_ GE126.out | refine aG_ ?_ GE127.out) | exact HB.out))); (case aF => exact (fun _ _ => trivial)); (case aO => exact ((Kd.R_nil _ _ _ _ (fun _ => True)))); (case aS => exact (aL_ (by repeat (first | (with_reducible first | exact HB.out | apply aA_ | apply aB_ | apply aE_ | refine aG_ ?_ GE125.out | refine aG_ ?_ GE126.out | refine aG_ ?_ GE127.out) | exact HB.out)))); (case aL => have := LMc2.out; omega); intro v129 w11 ho hb hg hat; rw [← Ny128.out] at ho; have n0_ := mk0 (blk_grown (g := gb125) (o := .cells #[.slice A0_0 l0_0.length c0_0, .slice A0_1 l0_1.length c0_1] 25 (0, 0)) (by (with_reducible repeat (first | refine aF_ ?_ _ | refine aH_ ?_ | refine aD_ ?_ _)); exact BK125.out) hg (by simp [Value.ownBlock])); have n1_ := mk0 (blk_grown (g := gb126) (o := .cells #[.slice none 0 0, .slice none 0 0] 25 (0, 0)) (by (with_reducible repeat (first | refine aF_ ?_ _ | refine aH_ ?_ | refine aD_ ?_ _)); exact BK126.out) hg (by simp [Value.ownBlock])); have n2_ := mk0 (blk_grown (g := gb127) (o := .cells #[.slice none 0 0, .slice none 0 0] 25 (0, 0)) (by (with_reducible repeat (first | refine aF_ ?_ _ | refine aH_ ?_ | refine aD_ ?_ _)); exact BK127.out) hg (by simp [Value.ownBlock])); have n3_ := mk0 (hb); have n4_ := mk0 (ho); clear BK125; clear BK126; clear BK127; clear HB; have BK125 := n0_; have BK126 := n1_; have BK127 := n2_; have HB := n3_; have HO130 := n4_; clear n0_ n1_ n2_ n3_ n4_; clear ho hb hg hat; obtain ⟨Ao12, co12, eo12⟩ := Kd.R_slice HO130.out; subst eo12; have hcz13_0 : w11.cell? ⟨gb127, 0, none⟩ = some (.slice none 0 0) := (aC_ BK127.out 0).trans rfl; have hcz13_1 : w11.cell? ⟨gb127, 1, none⟩ = some (.slice none 0 0) := (aC_ BK127.out 1).trans rfl; have hfz13_0 := aJ_ BK127.out 0; have hfz13_1 := aJ_ BK127.out 1; have hcz14_0 : w11.cell? ⟨gb125, 0, none⟩ = some (.slice A0_0 l0_0.length c0_0) := (aC_ BK125.out 0).trans rfl; have hcz14_1 : w11.cell? ⟨gb125, 1, none⟩ = some (.slice A0_1 l0_1.length c0_1) := (aC_ BK125.out 1).trans rfl; have hfz14_0 := aJ_ BK125.out 0; have hfz14_1 := aJ_ BK125.out 1))
  go_loopg [15] k (fun kq v15 w' => ∃ (x15_1 : Int) (x128001_1 : List (S52)) (u128001 : Value), v15 = .int .i64 x15_1 ∧ Aside0 (virgationref03_Copy.l0 kq l0_1 (l0_1.length : Int) x15_1 y128 x128001_1 = some (r1, r2)) ∧ Aside0 (kq ≤ k) ∧ Aside0 (Kd.R k71 71 w' w.heap.size (fun _ => True) (.slice Ao12 y128.length co12) y128) ∧ Aside0 (Kd.R k52 52 w' w.heap.size (fun _ => True) u128001 x128001_1) ∧ Aside0 (w'.heap[gb125]? = some (.cells #[(.slice A0_0 l0_0.length c0_0), (.slice A0_1 l0_1.length c0_1)] 25 (0, 0))) ∧ Aside0 (w'.heap[gb126]? = some (.cells #[(.slice none 0 0), (.slice none 0 0)] 25 (0, 0))) ∧ Aside0 (w'.heap[gb127]? = some (.cells #[(.slice Ao12 y128.length co12), u128001] 25 (0, 0))) ∧ Aside0 (Below w.heap.size w w'))
  case atStart => exact ⟨(0), (([] : List (S52))), (.slice none 0 0), (by first | rfl | (simp; done) | (simp [*]; done)), H', ⟨Nat.le_refl _⟩, ⟨by (with_reducible repeat (first | apply Kd.R_alloc | apply Kd.R_drewN | apply Kd.R_drew)); exact Kd.R_mono (Kd.R_far (p := ⟨gb127, 0, none⟩) (Kd.R_types HO130.out BK127.out (by decide)) (fun _ hk => hk.2) (.slice Ao12 y128.length co12)) (fun _ hk => trivial)⟩, ⟨by first | exact Kd.R_nil _ _ _ _ _ | exact Kd.N_nil _ _ _ _ _ | exact Kd.V_nil _ _ _ _ _ | exact Kd.Q_nil _ _ _ _ _ | exact Kd.S_nil _ _ _ _ _⟩, ⟨by (with_reducible repeat (first | refine aF_ ?_ _ | refine aH_ ?_ | refine aD_ ?_ _)); refine aT_ ?_ NB125_127.out _; (with_reducible repeat (first | refine aF_ ?_ _ | refine aH_ ?_ | refine aD_ ?_ _)); exact BK125.out⟩, ⟨by (with_reducible repeat (first | refine aF_ ?_ _ | refine aH_ ?_ | refine aD_ ?_ _)); refine aT_ ?_ NB126_127.out _; (with_reducible repeat (first | refine aF_ ?_ _ | refine aH_ ?_ | refine aD_ ?_ _)); exact BK126.out⟩, ⟨by (with_reducible repeat (first | refine aF_ ?_ _ | refine aH_ ?_ | refine aD_ ?_ _)); refine blk_put (cs := #[.slice none 0 0, .slice none 0 0]) ?_ 0 _ rfl; (with_reducible repeat (first | refine aF_ ?_ _ | refine aH_ ?_ | refine aD_ ?_ _)); exact BK127.out⟩, ⟨by repeat (first | (with_reducible first | exact HB.out | apply aA_ | apply aB_ | apply aE_ | refine aG_ ?_ GE125.out | refine aG_ ?_ GE126.out | refine aG_ ?_ GE127.out) | exact HB.out)⟩⟩
  case round =>
   clear H'
   try clear c2
   try clear p2
   try clear c3
   try clear c6
   try clear c7
   try clear c9
   try clear hcz10_0
   try clear hcz10_1
   try clear hcz13_0
   try clear hcz13_1
   try clear hcz14_0
   try clear hcz14_1
   try clear hcz8_0
   try clear hcz8_1
   try clear hfz10_0
   try clear hfz10_1
   try clear hfz13_0
   try clear hfz13_1
   try clear hfz14_0
   try clear hfz14_1
   try clear hfz8_0
   try clear hfz8_1
   obtain ⟨x15_1, x128001_1, u128001, rfl, HA, HK1, HO_128000, HO_128001, BK125, BK126, BK127, HB⟩ := hrel
   cases gk with
   | zero => exact absurd HA.out (by simp [virgationref03_Copy.l0])
   | succ k1 =>
    have H := HA.out
    clear HA
    simp only [virgationref03_Copy.l0] at H
    by_cases c15 : x15_1 < (l0_1.length : Int)
    ·rw [if_pos c15] at H
     have c15b0 : decide (x15_1 < (l0_1.length : Int)) = true := l2_ c15
     clear c15
     by_cases c16 : 0 ≤ x15_1
     ·rw [if_pos c16] at H
      have c16b0 : decide (0 ≤ x15_1) = true := l2_ c16
      clear c16
      by_cases c17 : x15_1 < (l0_1.length : Int)
      ·rw [if_pos c17] at H
       have c17b0 : decide (x15_1 < (l0_1.length : Int)) = true := l2_ c17
       clear c17
       replace H := Option.bind_eq_some_iff.mp H
       obtain ⟨t133, A180, H⟩ := H
       replace H : ((virgationref02_Copy.f k1 ((rd_T52 l0_1 x15_1).f2.f0) ((rd_T52 l0_1 x15_1).f2.f1) ((rd_T52 l0_1 x15_1).f2.f2)).bind fun bt136 => (if x128001_1.length < 1759218604441 then (virgationref03_Copy.l0 k1 l0_1 (l0_1.length : Int) (wrap64 (x15_1 + 1)) y128 (x128001_1 ++ [(⟨(rd_T52 l0_1 x15_1).f0, (⟨t133⟩ : S47), (⟨bt136.1, bt136.2.1, bt136.2.2⟩ : S50)⟩ : S52)])) else (none))) = some (r1, r2) := H
       have A18 := mk0 A180
       clear A180
       replace H := Option.bind_eq_some_iff.mp H
       obtain ⟨⟨t136, t137, t138⟩, A190, H⟩ := H
       replace H : (if x128001_1.length < 1759218604441 then (virgationref03_Copy.l0 k1 l0_1 (l0_1.length : Int) (wrap64 (x15_1 + 1)) y128 (x128001_1 ++ [(⟨(rd_T52 l0_1 x15_1).f0, (⟨t133⟩ : S47), (⟨t136, t137, t138⟩ : S50)⟩ : S52)])) else (none)) = some (r1, r2) := H
       have A19 := mk0 A190
       clear A190
       by_cases c20 : x128001_1.length < 1759218604441
       ·rw [if_pos c20] at H
        have LMc20 := mk0 c20
        clear c20
        obtain ⟨y141, hy141⟩ : ∃ y_ : List (S52), y_ = (x128001_1 ++ [(⟨(rd_T52 l0_1 x15_1).f0, (⟨t133⟩ : S47), (⟨t136, t137, t138⟩ : S50)⟩ : S52)]) := ⟨_, rfl⟩
        replace H : (virgationref03_Copy.l0 k1 l0_1 (l0_1.length : Int) (wrap64 (x15_1 + 1)) y128 y141) = some (r1, r2) := by first | (rw [hy141]; with_reducible exact H) | (have H2_ := (l21_ _ _).symm.trans H; rw [hy141]; with_reducible exact H2_) | (have H2_ := (l21_ _ _).symm.trans H; with_reducible exact H2_) | with_reducible exact H | (rw [hy141]; exact H) | exact H
        have Ny141 := mk0 hy141
        clear hy141
        have H' := mk0 H
        clear H
        have p131 : 0 ≤ (x15_1 : Int) := l0_ (by first | (with_reducible assumption) | assumption)
        have q131 : x15_1 < (l0_1.length : Int) := l0_ (by first | (with_reducible assumption) | assumption)
        obtain ⟨ad131, A131_1, c131_1, A131_4, c131_4, e131, hx131_0, hx131_1, hx131_2, hx131_3, hx131_4, hl131_1, hi131_1, hl131_4, hi131_4⟩ := at_T52 HR0_1.out x15_1 p131 q131
        cases e131
        replace hx131_0 := (HB.out.cell (l1_ w _ hx131_0)).trans hx131_0
        replace hx131_1 := (HB.out.cell (l1_ w _ hx131_1)).trans hx131_1
        replace hx131_2 := (HB.out.cell (l1_ w _ hx131_2)).trans hx131_2
        replace hx131_3 := (HB.out.cell (l1_ w _ hx131_3)).trans hx131_3
        replace hx131_4 := (HB.out.cell (l1_ w _ hx131_4)).trans hx131_4
        have HR131_1 := mk0 hi131_1
        have HC131_1 := mk0 hl131_1
        clear hi131_1 hl131_1
        have HR131_4 := mk0 hi131_4
        have HC131_4 := mk0 hl131_4
        clear hi131_4 hl131_4
        replace p131 := eq_true p131
        replace q131 := eq_true q131
        try go_wp2_with (first | ((with_reducible refine gate_dst (N := 5) rfl ?_); refine box_event ?hg (N := 5) ?hd (cs := #[.string (⟨#[]⟩ : ByteArray), .slice none 0 0, .int .i64 0, .int .i64 0, .slice none 0 0]) (t := 52) ?hr ?_; (case hd => rfl); (case hg => rfl); (case hr => first | (go_simp; done) | (go_simp; rfl)); intro gb132 hg w21 hbox hb; have n0_ := mk0 (Kd.R_below (by (with_reducible repeat (first | apply Kd.R_alloc | apply Kd.R_drewN | apply Kd.R_drew)); exact HO_128000.out) hb); have n1_ := mk0 (Kd.R_below (Kd.R_elderB (by (with_reducible repeat (first | apply Kd.R_alloc | apply Kd.R_drewN | apply Kd.R_drew)); exact HO_128001.out) gb132 (Nat.le_of_eq hg.symm)) hb); have n2_ := mk0 (aK_ (g := gb125) (o := .cells #[.slice A0_0 l0_0.length c0_0, .slice (some ad131) l0_1.length c0_1] 25 (0, 0)) (by (with_reducible repeat (first | refine aF_ ?_ _ | refine aH_ ?_ | refine aD_ ?_ _)); exact BK125.out) hb); have n3_ := mk0 (aK_ (g := gb126) (o := .cells #[.slice none 0 0, .slice none 0 0] 25 (0, 0)) (by (with_reducible repeat (first | refine aF_ ?_ _ | refine aH_ ?_ | refine aD_ ?_ _)); exact BK126.out) hb); have n4_ := mk0 (aK_ (g := gb127) (o := .cells #[.slice Ao12 y128.length co12, u128001] 25 (0, 0)) (by (with_reducible repeat (first | refine aF_ ?_ _ | refine aH_ ?_ | refine aD_ ?_ _)); exact BK127.out) hb); have n5_ := mk0 (aN_ (by repeat (first | (with_reducible first | exact HB.out | apply aA_ | apply aB_ | apply aE_ | refine aG_ ?_ GE125.out | refine aG_ ?_ GE126.out | refine aG_ ?_ GE127.out) | exact HB.out)) hb); have n6_ := mk0 (hbox); have n7_ := mk0 ((by rw [hg]; exact (aL_ (by repeat (first | (with_reducible first | exact HB.out | apply aA_ | apply aB_ | apply aE_ | refine aG_ ?_ GE125.out | refine aG_ ?_ GE126.out | refine aG_ ?_ GE127.out) | exact HB.out))) : w.heap.size ≤ gb132)); have n8_ := mk0 ((by rw [hg]; exact (aL_ (by repeat (first | (with_reducible first | exact HB.out | apply aA_ | apply aB_ | apply aE_ | refine aG_ ?_ GE125.out | refine aG_ ?_ GE126.out | refine aG_ ?_ GE127.out) | exact HB.out))) : w.heap.size ≤ gb132)); have n9_ := mk0 ((by rw [hg]; exact Nat.ne_of_lt (blk_lt (g := gb125) (o := .cells #[.slice A0_0 l0_0.length c0_0, .slice (some ad131) l0_1.length c0_1] 25 (0, 0)) (by (with_reducible repeat (first | refine aF_ ?_ _ | refine aH_ ?_ | refine aD_ ?_ _)); exact BK125.out)) : gb125 ≠ gb132)); have n10_ := mk0 ((by rw [hg]; exact Nat.ne_of_gt (blk_lt (g := gb125) (o := .cells #[.slice A0_0 l0_0.length c0_0, .slice (some ad131) l0_1.length c0_1] 25 (0, 0)) (by (with_reducible repeat (first | refine aF_ ?_ _ | refine aH_ ?_ | refine aD_ ?_ _)); exact BK125.out)) : gb132 ≠ gb125)); have n11_ := mk0 ((by rw [hg]; exact Nat.ne_of_lt (blk_lt (g := gb126) (o := .cells #[.slice none 0 0, .slice none 0 0] 25 (0, 0)) (by (with_reducible repeat (first | refine aF_ ?_ _ | refine aH_ ?_ | refine aD_ ?_ _)); exact BK126.out)) : gb126 ≠ gb132)); have n12_ := mk0 ((by rw [hg]; exact Nat.ne_of_gt (blk_lt (g := gb126) (o := .cells #[.slice none 0 0, .slice none 0 0] 25 (0, 0)) (by (with_reducible repeat (first | refine aF_ ?_ _ | refine aH_ ?_ | refine aD_ ?_ _)); exact BK126.out)) : gb132 ≠ gb126)); have n13_ := mk0 ((by rw [hg]; exact Nat.ne_of_lt (blk_lt (g := gb127) (o := .cells #[.slice Ao12 y128.length co12, u128001] 25 (0, 0)) (by (with_reducible repeat (first | refine aF_ ?_ _ | refine aH_ ?_ | refine aD_ ?_ _)); exact BK127.out)) : gb127 ≠ gb132)); have n14_ := mk0 ((by rw [hg]; exact Nat.ne_of_gt (blk_lt (g := gb127) (o := .cells #[.slice Ao12 y128.length co12, u128001] 25 (0, 0)) (by (with_reducible repeat (first | refine aF_ ?_ _ | refine aH_ ?_ | refine aD_ ?_ _)); exact BK127.out)) : gb132 ≠ gb127)); clear HO_128000; clear HO_128001; clear BK125; clear BK126; clear BK127; clear HB; have HO_128000 := n0_; have HO_128001 := n1_; have BK125 := n2_; have BK126 := n3_; have BK127 := n4_; have HB := n5_; have BK132 := n6_; have GW132 := n7_; have GE132 := n8_; have NB125_132 := n9_; have NB132_125 := n10_; have NB126_132 := n11_; have NB132_126 := n12_; have NB127_132 := n13_; have NB132_127 := n14_; clear n0_ n1_ n2_ n3_ n4_ n5_ n6_ n7_ n8_ n9_ n10_ n11_ n12_ n13_ n14_; clear hb hbox hg; have hnb22 := NB132_125.out; have hnc22 := NB125_132.out; have hnb23 := NB132_126.out; have hnc23 := NB126_132.out; have hnb24 := NB132_127.out; have hnc24 := NB127_132.out; have hcz25_0 : w21.cell? ⟨gb132, 0, none⟩ = some (.string (⟨#[]⟩ : ByteArray)) := (aC_ BK132.out 0).trans rfl; have hcz25_1 : w21.cell? ⟨gb132, 1, none⟩ = some (.slice none 0 0) := (aC_ BK132.out 1).trans rfl; have hcz25_2 : w21.cell? ⟨gb132, 2, none⟩ = some (.int .i64 0) := (aC_ BK132.out 2).trans rfl; have hcz25_3 : w21.cell? ⟨gb132, 3, none⟩ = some (.int .i64 0) := (aC_ BK132.out 3).trans rfl; have hcz25_4 : w21.cell? ⟨gb132, 4, none⟩ = some (.slice none 0 0) := (aC_ BK132.out 4).trans rfl; have hfz25_0 := aJ_ BK132.out 0; have hfz25_1 := aJ_ BK132.out 1; have hfz25_2 := aJ_ BK132.out 2; have hfz25_3 := aJ_ BK132.out 3; have hfz25_4 := aJ_ BK132.out 4))
        have n0_ : Aside0 (Kd.R k71 71 (((((w21.setCell ⟨gb132, 0, none⟩ (.string ((rd_T52 l0_1 x15_1).f0))).setCell ⟨gb132, 1, none⟩ (.slice A131_1 ((rd_T52 l0_1 x15_1).f1.f0).length c131_1)).setCell ⟨gb132, 2, none⟩ (.int .i64 ((rd_T52 l0_1 x15_1).f2.f0))).setCell ⟨gb132, 3, none⟩ (.int .i64 ((rd_T52 l0_1 x15_1).f2.f1))).setCell ⟨gb132, 4, none⟩ (.slice A131_4 ((rd_T52 l0_1 x15_1).f2.f2).length c131_4)) w.heap.size (fun _ => True) (.slice Ao12 y128.length co12) y128) := ⟨by (with_reducible repeat (first | apply Kd.R_alloc | apply Kd.R_drewN | apply Kd.R_drew)); exact Kd.R_mono (Kd.R_far (p := ⟨gb132, 4, none⟩) (Kd.R_far (p := ⟨gb132, 3, none⟩) (Kd.R_far (p := ⟨gb132, 2, none⟩) (Kd.R_far (p := ⟨gb132, 1, none⟩) (Kd.R_far (p := ⟨gb132, 0, none⟩) (Kd.R_types HO_128000.out BK132.out (by decide)) (fun _ hk => hk.2) (.string ((rd_T52 l0_1 x15_1).f0))) (fun _ hk => hk.2) (.slice A131_1 ((rd_T52 l0_1 x15_1).f1.f0).length c131_1)) (fun _ hk => hk.2) (.int .i64 ((rd_T52 l0_1 x15_1).f2.f0))) (fun _ hk => hk.2) (.int .i64 ((rd_T52 l0_1 x15_1).f2.f1))) (fun _ hk => hk.2) (.slice A131_4 ((rd_T52 l0_1 x15_1).f2.f2).length c131_4)) (fun _ hk => trivial)⟩
        have n1_ : Aside0 (Kd.R k52 52 (((((w21.setCell ⟨gb132, 0, none⟩ (.string ((rd_T52 l0_1 x15_1).f0))).setCell ⟨gb132, 1, none⟩ (.slice A131_1 ((rd_T52 l0_1 x15_1).f1.f0).length c131_1)).setCell ⟨gb132, 2, none⟩ (.int .i64 ((rd_T52 l0_1 x15_1).f2.f0))).setCell ⟨gb132, 3, none⟩ (.int .i64 ((rd_T52 l0_1 x15_1).f2.f1))).setCell ⟨gb132, 4, none⟩ (.slice A131_4 ((rd_T52 l0_1 x15_1).f2.f2).length c131_4)) w.heap.size (fun k_ => k_ ≠ gb132) u128001 x128001_1) := ⟨by (with_reducible repeat (first | apply Kd.R_alloc | apply Kd.R_drewN | apply Kd.R_drew)); exact Kd.R_mono (Kd.R_far (p := ⟨gb132, 4, none⟩) (Kd.R_far (p := ⟨gb132, 3, none⟩) (Kd.R_far (p := ⟨gb132, 2, none⟩) (Kd.R_far (p := ⟨gb132, 1, none⟩) (Kd.R_far (p := ⟨gb132, 0, none⟩) (Kd.R_mono HO_128001.out (fun k_ hk => (⟨hk, hk.2⟩ : _ ∧ k_ ≠ gb132))) (fun _ hk => hk.2) (.string ((rd_T52 l0_1 x15_1).f0))) (fun _ hk => hk.2) (.slice A131_1 ((rd_T52 l0_1 x15_1).f1.f0).length c131_1)) (fun _ hk => hk.2) (.int .i64 ((rd_T52 l0_1 x15_1).f2.f0))) (fun _ hk => hk.2) (.int .i64 ((rd_T52 l0_1 x15_1).f2.f1))) (fun _ hk => hk.2) (.slice A131_4 ((rd_T52 l0_1 x15_1).f2.f2).length c131_4)) (fun _ hk => hk.1.2)⟩
        have n2_ : Aside0 ((((((w21.setCell ⟨gb132, 0, none⟩ (.string ((rd_T52 l0_1 x15_1).f0))).setCell ⟨gb132, 1, none⟩ (.slice A131_1 ((rd_T52 l0_1 x15_1).f1.f0).length c131_1)).setCell ⟨gb132, 2, none⟩ (.int .i64 ((rd_T52 l0_1 x15_1).f2.f0))).setCell ⟨gb132, 3, none⟩ (.int .i64 ((rd_T52 l0_1 x15_1).f2.f1))).setCell ⟨gb132, 4, none⟩ (.slice A131_4 ((rd_T52 l0_1 x15_1).f2.f2).length c131_4)).heap[gb125]? = some (.cells #[.slice A0_0 l0_0.length c0_0, .slice (some ad131) l0_1.length c0_1] 25 (0, 0))) := ⟨by (with_reducible repeat (first | refine aF_ ?_ _ | refine aH_ ?_ | refine aD_ ?_ _)); refine aT_ ?_ NB125_132.out _; (with_reducible repeat (first | refine aF_ ?_ _ | refine aH_ ?_ | refine aD_ ?_ _)); refine aT_ ?_ NB125_132.out _; (with_reducible repeat (first | refine aF_ ?_ _ | refine aH_ ?_ | refine aD_ ?_ _)); refine aT_ ?_ NB125_132.out _; (with_reducible repeat (first | refine aF_ ?_ _ | refine aH_ ?_ | refine aD_ ?_ _)); refine aT_ ?_ NB125_132.out _; (with_reducible repeat (first | refine aF_ ?_ _ | refine aH_ ?_ | refine aD_ ?_ _)); refine aT_ ?_ NB125_132.out _; (with_reducible repeat (first | refine aF_ ?_ _ | refine aH_ ?_ | refine aD_ ?_ _)); exact BK125.out⟩
        have n3_ : Aside0 ((((((w21.setCell ⟨gb132, 0, none⟩ (.string ((rd_T52 l0_1 x15_1).f0))).setCell ⟨gb132, 1, none⟩ (.slice A131_1 ((rd_T52 l0_1 x15_1).f1.f0).length c131_1)).setCell ⟨gb132, 2, none⟩ (.int .i64 ((rd_T52 l0_1 x15_1).f2.f0))).setCell ⟨gb132, 3, none⟩ (.int .i64 ((rd_T52 l0_1 x15_1).f2.f1))).setCell ⟨gb132, 4, none⟩ (.slice A131_4 ((rd_T52 l0_1 x15_1).f2.f2).length c131_4)).heap[gb126]? = some (.cells #[.slice none 0 0, .slice none 0 0] 25 (0, 0))) := ⟨by (with_reducible repeat (first | refine aF_ ?_ _ | refine aH_ ?_ | refine aD_ ?_ _)); refine aT_ ?_ NB126_132.out _; (with_reducible repeat (first | refine aF_ ?_ _ | refine aH_ ?_ | refine aD_ ?_ _)); refine aT_ ?_ NB126_132.out _; (with_reducible repeat (first | refine aF_ ?_ _ | refine aH_ ?_ | refine aD_ ?_ _)); refine aT_ ?_ NB126_132.out _; (with_reducible repeat (first | refine aF_ ?_ _ | refine aH_ ?_ | refine aD_ ?_ _)); refine aT_ ?_ NB126_132.out _; (with_reducible repeat (first | refine aF_ ?_ _ | refine aH_ ?_ | refine aD_ ?_ _)); refine aT_ ?_ NB126_132.out _; (with_reducible repeat (first | refine aF_ ?_ _ | refine aH_ ?_ | refine aD_ ?_ _)); exact BK126.out⟩
        have n4_ : Aside0 ((((((w21.setCell ⟨gb132, 0, none⟩ (.string ((rd_T52 l0_1 x15_1).f0))).setCell ⟨gb132, 1, none⟩ (.slice A131_1 ((rd_T52 l0_1 x15_1).f1.f0).length c131_1)).setCell ⟨gb132, 2, none⟩ (.int .i64 ((rd_T52 l0_1 x15_1).f2.f0))).setCell ⟨gb132, 3, none⟩ (.int .i64 ((rd_T52 l0_1 x15_1).f2.f1))).setCell ⟨gb132, 4, none⟩ (.slice A131_4 ((rd_T52 l0_1 x15_1).f2.f2).length c131_4)).heap[gb127]? = some (.cells #[.slice Ao12 y128.length co12, u128001] 25 (0, 0))) := ⟨by (with_reducible repeat (first | refine aF_ ?_ _ | refine aH_ ?_ | refine aD_ ?_ _)); refine aT_ ?_ NB127_132.out _; (with_reducible repeat (first | refine aF_ ?_ _ | refine aH_ ?_ | refine aD_ ?_ _)); refine aT_ ?_ NB127_132.out _; (with_reducible repeat (first | refine aF_ ?_ _ | refine aH_ ?_ | refine aD_ ?_ _)); refine aT_ ?_ NB127_132.out _; (with_reducible repeat (first | refine aF_ ?_ _ | refine aH_ ?_ | refine aD_ ?_ _)); refine aT_ ?_ NB127_132.out _; (with_reducible repeat (first | refine aF_ ?_ _ | refine aH_ ?_ | refine aD_ ?_ _)); refine aT_ ?_ NB127_132.out _; (with_reducible repeat (first | refine aF_ ?_ _ | refine aH_ ?_ | refine aD_ ?_ _)); exact BK127.out⟩
        have n5_ : Aside0 ((((((w21.setCell ⟨gb132, 0, none⟩ (.string ((rd_T52 l0_1 x15_1).f0))).setCell ⟨gb132, 1, none⟩ (.slice A131_1 ((rd_T52 l0_1 x15_1).f1.f0).length c131_1)).setCell ⟨gb132, 2, none⟩ (.int .i64 ((rd_T52 l0_1 x15_1).f2.f0))).setCell ⟨gb132, 3, none⟩ (.int .i64 ((rd_T52 l0_1 x15_1).f2.f1))).setCell ⟨gb132, 4, none⟩ (.slice A131_4 ((rd_T52 l0_1 x15_1).f2.f2).length c131_4)).heap[gb132]? = some (.cells #[.string ((rd_T52 l0_1 x15_1).f0), .slice A131_1 ((rd_T52 l0_1 x15_1).f1.f0).length c131_1, .int .i64 ((rd_T52 l0_1 x15_1).f2.f0), .int .i64 ((rd_T52 l0_1 x15_1).f2.f1), .slice A131_4 ((rd_T52 l0_1 x15_1).f2.f2).length c131_4] 52 (0, 0))) := ⟨by (with_reducible repeat (first | refine aF_ ?_ _ | refine aH_ ?_ | refine aD_ ?_ _)); refine blk_put (cs := #[.string ((rd_T52 l0_1 x15_1).f0), .slice A131_1 ((rd_T52 l0_1 x15_1).f1.f0).length c131_1, .int .i64 ((rd_T52 l0_1 x15_1).f2.f0), .int .i64 ((rd_T52 l0_1 x15_1).f2.f1), .slice none 0 0]) ?_ 4 _ rfl; (with_reducible repeat (first | refine aF_ ?_ _ | refine aH_ ?_ | refine aD_ ?_ _)); refine blk_put (cs := #[.string ((rd_T52 l0_1 x15_1).f0), .slice A131_1 ((rd_T52 l0_1 x15_1).f1.f0).length c131_1, .int .i64 ((rd_T52 l0_1 x15_1).f2.f0), .int .i64 0, .slice none 0 0]) ?_ 3 _ rfl; (with_reducible repeat (first | refine aF_ ?_ _ | refine aH_ ?_ | refine aD_ ?_ _)); refine blk_put (cs := #[.string ((rd_T52 l0_1 x15_1).f0), .slice A131_1 ((rd_T52 l0_1 x15_1).f1.f0).length c131_1, .int .i64 0, .int .i64 0, .slice none 0 0]) ?_ 2 _ rfl; (with_reducible repeat (first | refine aF_ ?_ _ | refine aH_ ?_ | refine aD_ ?_ _)); refine blk_put (cs := #[.string ((rd_T52 l0_1 x15_1).f0), .slice none 0 0, .int .i64 0, .int .i64 0, .slice none 0 0]) ?_ 1 _ rfl; (with_reducible repeat (first | refine aF_ ?_ _ | refine aH_ ?_ | refine aD_ ?_ _)); refine blk_put (cs := #[.string (⟨#[]⟩ : ByteArray), .slice none 0 0, .int .i64 0, .int .i64 0, .slice none 0 0]) ?_ 0 _ rfl; (with_reducible repeat (first | refine aF_ ?_ _ | refine aH_ ?_ | refine aD_ ?_ _)); exact BK132.out⟩
        have n6_ : Aside0 (Below w.heap.size w (((((w21.setCell ⟨gb132, 0, none⟩ (.string ((rd_T52 l0_1 x15_1).f0))).setCell ⟨gb132, 1, none⟩ (.slice A131_1 ((rd_T52 l0_1 x15_1).f1.f0).length c131_1)).setCell ⟨gb132, 2, none⟩ (.int .i64 ((rd_T52 l0_1 x15_1).f2.f0))).setCell ⟨gb132, 3, none⟩ (.int .i64 ((rd_T52 l0_1 x15_1).f2.f1))).setCell ⟨gb132, 4, none⟩ (.slice A131_4 ((rd_T52 l0_1 x15_1).f2.f2).length c131_4))) := ⟨by repeat (first | (with_reducible first | exact HB.out | apply aA_ | apply aB_ | apply aE_ | refine aG_ ?_ GE125.out | refine aG_ ?_ GE126.out | refine aG_ ?_ GE127.out | refine aG_ ?_ GE132.out) | exact HB.out)⟩
        (try clear HO_128000)
        (try clear HO_128001)
        (try clear BK125)
        (try clear BK126)
        (try clear BK127)
        (try clear BK132)
        (try clear HB)
        generalize (((((w21.setCell ⟨gb132, 0, none⟩ (.string ((rd_T52 l0_1 x15_1).f0))).setCell ⟨gb132, 1, none⟩ (.slice A131_1 ((rd_T52 l0_1 x15_1).f1.f0).length c131_1)).setCell ⟨gb132, 2, none⟩ (.int .i64 ((rd_T52 l0_1 x15_1).f2.f0))).setCell ⟨gb132, 3, none⟩ (.int .i64 ((rd_T52 l0_1 x15_1).f2.f1))).setCell ⟨gb132, 4, none⟩ (.slice A131_4 ((rd_T52 l0_1 x15_1).f2.f2).length c131_4)) = w26 at n0_ n1_ n2_ n3_ n4_ n5_ n6_ ⊢
        have HO_128000 := n0_
        have HO_128001 := n1_
        have BK125 := n2_
        have BK126 := n3_
        have BK127 := n4_
        have BK132 := n5_
        have HB := n6_
        clear n0_ n1_ n2_ n3_ n4_ n5_ n6_
        have n0_ := mk0 (Kd.R_drew HO_128000.out)
        have n1_ := mk0 (Kd.R_drew HO_128001.out)
        have n2_ := mk0 (aH_ BK125.out)
        have n3_ := mk0 (aH_ BK126.out)
        have n4_ := mk0 (aH_ BK127.out)
        have n5_ := mk0 (aH_ BK132.out)
        have n6_ := mk0 (aE_ HB.out)
        clear HO_128000
        clear HO_128001
        clear BK125
        clear BK126
        clear BK127
        clear BK132
        clear HB
        have HO_128000 := n0_
        have HO_128001 := n1_
        have BK125 := n2_
        have BK126 := n3_
        have BK127 := n4_
        have BK132 := n5_
        have HB := n6_
        clear n0_ n1_ n2_ n3_ n4_ n5_ n6_
        refine start_ (n := 15) (S := fun w' => w'.cell? ⟨gb127, 0, none⟩ = some (.slice Ao12 y128.length co12) ∧ w'.cell? ⟨gb127, 1, none⟩ = some (u128001) ∧ w'.cell? ⟨gb132, 0, none⟩ = some (.string ((rd_T52 l0_1 x15_1).f0)) ∧ w'.cell? ⟨gb132, 1, none⟩ = some (.slice A131_1 ((rd_T52 l0_1 x15_1).f1.f0).length c131_1) ∧ w'.cell? ⟨gb132, 2, none⟩ = some (.int .i64 ((rd_T52 l0_1 x15_1).f2.f0)) ∧ w'.cell? ⟨gb132, 3, none⟩ = some (.int .i64 ((rd_T52 l0_1 x15_1).f2.f1)) ∧ w'.cell? ⟨gb132, 4, none⟩ = some (.slice A131_4 ((rd_T52 l0_1 x15_1).f2.f2).length c131_4)) (ds := [14]) #[false, false, false, false, false, false, false, false, false, false, false, false, false, false, false] (by kernel_rfl) rfl rfl ⟨(aC_ BK127.out 0).trans rfl, (aC_ BK127.out 1).trans rfl, (aC_ BK132.out 0).trans rfl, (aC_ BK132.out 1).trans rfl, (aC_ BK132.out 2).trans rfl, (aC_ BK132.out 3).trans rfl, (aC_ BK132.out 4).trans rfl⟩ (fun hHeld => ?_); refine with_tabW virgationref03_Copy.tab6 virgationref03_Copy.bits6 (fun HT_ HW_ => ?_)
        generalize w26.drew = w27 at HO_128000 HO_128001 BK125 BK126 BK127 BK132 HB hHeld ⊢
        refine pure_ (i := 0) (N := some 19) (v := ?_) (a' := ?_) #[true, false, false, false, false, false, false, false, false, false, false, false, false, false, false] rfl rfl (any_of HT_.out (by kernel_rfl)) (fun _ _ _ h => h) (Or.inl ⟨by rfl, ?_⟩) ?_ ?_
        rotate_left
        ·intro w'
         go_simp
         with_reducible rfl
        rotate_left
        ·simp only [Act.put, l4_, l5_, l6_, i64_w, i32_w]
         rfl
        refine pure_ (i := 2) (N := some 21) (v := ?_) (a' := ?_) #[true, false, true, false, false, false, false, false, false, false, false, false, false, false, false] rfl rfl (any_of HT_.out (by kernel_rfl)) (fun _ _ _ h => h) (Or.inl ⟨by rfl, ?_⟩) ?_ ?_
        rotate_left
        ·intro w'
         go_simp
         with_reducible rfl
        rotate_left
        ·simp only [Act.put, l4_, l5_, l6_, i64_w, i32_w]
         rfl
        refine pure_ (i := 4) (N := some 23) (v := ?_) (a' := ?_) #[true, false, true, false, true, false, false, false, false, false, false, false, false, false, false] rfl rfl (any_of HT_.out (by kernel_rfl)) (fun _ _ _ h => h) (Or.inl ⟨by rfl, ?_⟩) ?_ ?_
        rotate_left
        ·intro w'
         go_simp
         with_reducible rfl
        rotate_left
        ·simp only [Act.put, l4_, l5_, l6_, i64_w, i32_w]
         rfl
        refine pure_ (i := 7) (N := some 26) (v := ?_) (a' := ?_) #[true, false, true, false, true, false, false, true, false, false, false, false, false, false, false] rfl rfl (any_of HT_.out (by kernel_rfl)) (fun _ _ _ h => h) (Or.inl ⟨by rfl, ?_⟩) ?_ ?_
        rotate_left
        ·intro w'
         go_simp
         with_reducible rfl
        rotate_left
        ·simp only [Act.put, l4_, l5_, l6_, i64_w, i32_w]
         rfl
        refine take_ (i := 1) (N := some 20) (v := ?_) (a' := ?_) #[true, true, true, false, true, false, false, true, false, false, false, false, false, false, false] rfl rfl (take_ofW HT_.out HW_.out (by kernel_rfl)) (fun _ _ _ h => h) (Or.inl ⟨by rfl, ?_⟩) hHeld ?_ ?_
        rotate_left
        ·rintro w' ⟨s0, s1, s2, s3, s4, s5, s6⟩
         go_simp
         with_reducible rfl
        rotate_left
        ·simp only [Act.put, l4_, l5_, l6_, i64_w, i32_w]
         rfl
        refine take_ (i := 3) (N := some 22) (v := ?_) (a' := ?_) #[true, true, true, true, true, false, false, true, false, false, false, false, false, false, false] rfl rfl (take_ofW HT_.out HW_.out (by kernel_rfl)) (fun _ _ _ h => h) (Or.inl ⟨by rfl, ?_⟩) hHeld ?_ ?_
        rotate_left
        ·rintro w' ⟨s0, s1, s2, s3, s4, s5, s6⟩
         go_simp
         with_reducible rfl
        rotate_left
        ·simp only [Act.put, l4_, l5_, l6_, i64_w, i32_w]
         rfl
        refine take_ (i := 5) (N := some 24) (v := ?_) (a' := ?_) #[true, true, true, true, true, true, false, true, false, false, false, false, false, false, false] rfl rfl (take_ofW HT_.out HW_.out (by kernel_rfl)) (fun _ _ _ h => h) (Or.inl ⟨by rfl, ?_⟩) hHeld ?_ ?_
        rotate_left
        ·rintro w' ⟨s0, s1, s2, s3, s4, s5, s6⟩
         go_simp
         with_reducible rfl
        rotate_left
        ·simp only [Act.put, l4_, l5_, l6_, i64_w, i32_w]
         rfl
        refine take_ (i := 8) (N := some 27) (v := ?_) (a' := ?_) #[true, true, true, true, true, true, false, true, true, false, false, false, false, false, false] rfl rfl (take_ofW HT_.out HW_.out (by kernel_rfl)) (fun _ _ _ h => h) (Or.inl ⟨by rfl, ?_⟩) hHeld ?_ ?_
        rotate_left
        ·rintro w' ⟨s0, s1, s2, s3, s4, s5, s6⟩
         go_simp
         with_reducible rfl
        rotate_left
        ·simp only [Act.put, l4_, l5_, l6_, i64_w, i32_w]
         rfl
        refine one_ (i := 6) (N := some 25) #[true, true, true, true, true, true, true, true, true, false, false, false, false, false, false] rfl rfl (one_of HT_.out (by kernel_rfl)) (by decide) (fun K hK => ?_)
        refine goes_ Tryz.func84 (by kernel_rfl) rfl #[.agg #[.slice A131_1 ((rd_T52 l0_1 x15_1).f1.f0).length c131_1]] (by rfl) rfl rfl (by (try simp only [List.map_toArray, List.map_cons, List.map_nil]); first | done | rfl | (simp only [l9_, List.length_take]; rfl)) ?_
        with_reducible refine (virgationref01_Copy.calls k1 _ _ ((rd_T52 l0_1 x15_1).f1.f0) t133 _ ?side1 ?side2 A18.out).mono ?_
        (case side1 => repeat (first | exact (Kd.C_below HR131_1.out HB.out) | (with_reducible refine Kd.C_alloc ?_ _) | (with_reducible refine Kd.C_drewN ?_ _) | (with_reducible refine Kd.C_drew ?_)))
        (case side2 => exact HC131_1.out)
        rintro e w28 ⟨v134, rfl, ho0, hb⟩
        refine ⟨_, rfl, ?_⟩
        have n0_ := mk0 (Kd.R_below (by (with_reducible repeat (first | apply Kd.R_alloc | apply Kd.R_drewN | apply Kd.R_drew)); exact HO_128000.out) hb)
        have n1_ := mk0 (Kd.R_elder' (by (with_reducible repeat (first | apply Kd.R_alloc | apply Kd.R_drewN | apply Kd.R_drew)); exact HO_128001.out) (Kd.R_base ho0) hb)
        have n2_ := mk0 (Kd.R_lower ho0 (aL_ (by repeat (first | (with_reducible first | exact HB.out | apply aA_ | apply aB_ | apply aE_ | refine aG_ ?_ GE125.out | refine aG_ ?_ GE126.out | refine aG_ ?_ GE127.out | refine aG_ ?_ GE132.out) | exact HB.out))))
        have n3_ := mk0 (aK_ (g := gb125) (o := .cells #[.slice A0_0 l0_0.length c0_0, .slice (some ad131) l0_1.length c0_1] 25 (0, 0)) (by (with_reducible repeat (first | refine aF_ ?_ _ | refine aH_ ?_ | refine aD_ ?_ _)); exact BK125.out) hb)
        have n4_ := mk0 (aK_ (g := gb126) (o := .cells #[.slice none 0 0, .slice none 0 0] 25 (0, 0)) (by (with_reducible repeat (first | refine aF_ ?_ _ | refine aH_ ?_ | refine aD_ ?_ _)); exact BK126.out) hb)
        have n5_ := mk0 (aK_ (g := gb127) (o := .cells #[.slice Ao12 y128.length co12, u128001] 25 (0, 0)) (by (with_reducible repeat (first | refine aF_ ?_ _ | refine aH_ ?_ | refine aD_ ?_ _)); exact BK127.out) hb)
        have n6_ := mk0 (aK_ (g := gb132) (o := .cells #[.string ((rd_T52 l0_1 x15_1).f0), .slice A131_1 ((rd_T52 l0_1 x15_1).f1.f0).length c131_1, .int .i64 ((rd_T52 l0_1 x15_1).f2.f0), .int .i64 ((rd_T52 l0_1 x15_1).f2.f1), .slice A131_4 ((rd_T52 l0_1 x15_1).f2.f2).length c131_4] 52 (0, 0)) (by (with_reducible repeat (first | refine aF_ ?_ _ | refine aH_ ?_ | refine aD_ ?_ _)); exact BK132.out) hb)
        have n7_ := mk0 (aN_ (by repeat (first | (with_reducible first | exact HB.out | apply aA_ | apply aB_ | apply aE_ | refine aG_ ?_ GE125.out | refine aG_ ?_ GE126.out | refine aG_ ?_ GE127.out | refine aG_ ?_ GE132.out) | exact HB.out)) hb)
        clear HO_128000
        clear HO_128001
        clear BK125
        clear BK126
        clear BK127
        clear BK132
        clear HB
        have HO_128000 := n0_
        have HO_128001 := n1_
        have HO135 := n2_
        have BK125 := n3_
        have BK126 := n4_
        have BK127 := n5_
        have BK132 := n6_
        have HB := n7_
        clear n0_ n1_ n2_ n3_ n4_ n5_ n6_ n7_
        (try clear hb)
        (try clear hb2)
        (try clear hk)
        (try clear hi)
        (try clear ho0)
        refine hK.out _ _ ⟨(aC_ BK127.out 0).trans rfl, (aC_ BK127.out 1).trans rfl, (aC_ BK132.out 0).trans rfl, (aC_ BK132.out 1).trans rfl, (aC_ BK132.out 2).trans rfl, (aC_ BK132.out 3).trans rfl, (aC_ BK132.out 4).trans rfl⟩ (fun hHeld => ?_)
        clear hK K
        refine norm_ (a' := ?_) ?_ ?_
        rotate_left
        ·show Act.put _ (some 25) _ = _
         simp only [Act.put, l4_, l5_, l6_, i64_w, i32_w]
         rfl
        refine one_ (i := 9) (N := some 28) #[true, true, true, true, true, true, true, true, true, true, false, false, false, false, false] rfl rfl (one_of HT_.out (by kernel_rfl)) (by decide) (fun K hK => ?_)
        refine goes_ Tryz.func85 (by kernel_rfl) rfl #[.agg #[.int .i64 ((rd_T52 l0_1 x15_1).f2.f0), .int .i64 ((rd_T52 l0_1 x15_1).f2.f1), .slice A131_4 ((rd_T52 l0_1 x15_1).f2.f2).length c131_4]] (by rfl) rfl rfl (by (try simp only [List.map_toArray, List.map_cons, List.map_nil]); first | done | rfl | (simp only [l9_, List.length_take]; rfl)) ?_
        with_reducible refine (virgationref02_Copy.calls k1 ((rd_T52 l0_1 x15_1).f2.f0) ((rd_T52 l0_1 x15_1).f2.f1) _ _ ((rd_T52 l0_1 x15_1).f2.f2) t136 t137 t138 _ ?side1 ?side2 A19.out).mono ?_
        (case side1 => repeat (first | exact (Kd.C_below HR131_4.out HB.out) | (with_reducible refine Kd.C_alloc ?_ _) | (with_reducible refine Kd.C_drewN ?_ _) | (with_reducible refine Kd.C_drew ?_)))
        (case side2 => exact HC131_4.out)
        rintro e w29 ⟨v139, rfl, ho0, hb⟩
        refine ⟨_, rfl, ?_⟩
        have n0_ := mk0 (Kd.R_below (by (with_reducible repeat (first | apply Kd.R_alloc | apply Kd.R_drewN | apply Kd.R_drew)); exact HO_128000.out) hb)
        have n1_ := mk0 (Kd.R_elder' (by (with_reducible repeat (first | apply Kd.R_alloc | apply Kd.R_drewN | apply Kd.R_drew)); exact HO_128001.out) (Kd.R_base ho0) hb)
        have n2_ := mk0 (Kd.R_below (by (with_reducible repeat (first | apply Kd.R_alloc | apply Kd.R_drewN | apply Kd.R_drew)); exact HO135.out) hb)
        have n3_ := mk0 (Kd.R_lower ho0 (aL_ (by repeat (first | (with_reducible first | exact HB.out | apply aA_ | apply aB_ | apply aE_ | refine aG_ ?_ GE125.out | refine aG_ ?_ GE126.out | refine aG_ ?_ GE127.out | refine aG_ ?_ GE132.out) | exact HB.out))))
        have n4_ := mk0 (aK_ (g := gb125) (o := .cells #[.slice A0_0 l0_0.length c0_0, .slice (some ad131) l0_1.length c0_1] 25 (0, 0)) (by (with_reducible repeat (first | refine aF_ ?_ _ | refine aH_ ?_ | refine aD_ ?_ _)); exact BK125.out) hb)
        have n5_ := mk0 (aK_ (g := gb126) (o := .cells #[.slice none 0 0, .slice none 0 0] 25 (0, 0)) (by (with_reducible repeat (first | refine aF_ ?_ _ | refine aH_ ?_ | refine aD_ ?_ _)); exact BK126.out) hb)
        have n6_ := mk0 (aK_ (g := gb127) (o := .cells #[.slice Ao12 y128.length co12, u128001] 25 (0, 0)) (by (with_reducible repeat (first | refine aF_ ?_ _ | refine aH_ ?_ | refine aD_ ?_ _)); exact BK127.out) hb)
        have n7_ := mk0 (aK_ (g := gb132) (o := .cells #[.string ((rd_T52 l0_1 x15_1).f0), .slice A131_1 ((rd_T52 l0_1 x15_1).f1.f0).length c131_1, .int .i64 ((rd_T52 l0_1 x15_1).f2.f0), .int .i64 ((rd_T52 l0_1 x15_1).f2.f1), .slice A131_4 ((rd_T52 l0_1 x15_1).f2.f2).length c131_4] 52 (0, 0)) (by (with_reducible repeat (first | refine aF_ ?_ _ | refine aH_ ?_ | refine aD_ ?_ _)); exact BK132.out) hb)
        have n8_ := mk0 (aN_ (by repeat (first | (with_reducible first | exact HB.out | apply aA_ | apply aB_ | apply aE_ | refine aG_ ?_ GE125.out | refine aG_ ?_ GE126.out | refine aG_ ?_ GE127.out | refine aG_ ?_ GE132.out) | exact HB.out)) hb)
        clear HO_128000
        clear HO_128001
        clear HO135
        clear BK125
        clear BK126
        clear BK127
        clear BK132
        clear HB
        have HO_128000 := n0_
        have HO_128001 := n1_
        have HO135 := n2_
        have HO140 := n3_
        have BK125 := n4_
        have BK126 := n5_
        have BK127 := n6_
        have BK132 := n7_
        have HB := n8_
        clear n0_ n1_ n2_ n3_ n4_ n5_ n6_ n7_ n8_
        (try clear hb)
        (try clear hb2)
        (try clear hk)
        (try clear hi)
        (try clear ho0)
        obtain ⟨Ao30, co30, eo30⟩ := Kd.R_slice HO140.out
        (first | subst eo30 | (injection eo30 with f1_ f2_ f3_; have f4_ := f1_.symm; have f5_ := f3_.symm; clear f1_ f2_ f3_; subst f4_; subst f5_))
        obtain ⟨Ao31, co31, eo31⟩ := Kd.R_slice HO135.out
        (first | subst eo31 | (injection eo31 with f1_ f2_ f3_; have f4_ := f1_.symm; have f5_ := f3_.symm; clear f1_ f2_ f3_; subst f4_; subst f5_))
        refine hK.out _ _ ⟨(aC_ BK127.out 0).trans rfl, (aC_ BK127.out 1).trans rfl, (aC_ BK132.out 0).trans rfl, (aC_ BK132.out 1).trans rfl, (aC_ BK132.out 2).trans rfl, (aC_ BK132.out 3).trans rfl, (aC_ BK132.out 4).trans rfl⟩ (fun hHeld => ?_)
        clear hK K
        refine norm_ (a' := ?_) ?_ ?_
        rotate_left
        ·show Act.put _ (some 28) _ = _
         simp only [Act.put, l4_, l5_, l6_, i64_w, i32_w]
         rfl
        refine pure_ (i := 10) (N := some 29) (v := ?_) (a' := ?_) #[true, true, true, true, true, true, true, true, true, true, true, false, false, false, false] rfl rfl (any_of HT_.out (by kernel_rfl)) (fun _ _ _ h => h) (Or.inl ⟨by rfl, ?_⟩) ?_ ?_
        rotate_left
        ·intro w'
         go_simp
         with_reducible rfl
        rotate_left
        ·simp only [Act.put, l4_, l5_, l6_, i64_w, i32_w]
         rfl
        refine one_ (i := 11) (N := some 30) #[true, true, true, true, true, true, true, true, true, true, true, true, false, false, false] rfl rfl (one_of HT_.out (by kernel_rfl)) (by decide) (fun K hK => ?_)
        refine value_ (w1 := ?_) (v := ?_) (by rfl) rfl ?_ ?_
        rotate_left 2
        ·go_simp
         constructor
         ·rfl
         ·rfl
        refine hK.out _ _ ⟨(aC_ (aD_ BK127.out _) 0).trans rfl, (aC_ (aD_ BK127.out _) 1).trans rfl, (aC_ (aD_ BK132.out _) 0).trans rfl, (aC_ (aD_ BK132.out _) 1).trans rfl, (aC_ (aD_ BK132.out _) 2).trans rfl, (aC_ (aD_ BK132.out _) 3).trans rfl, (aC_ (aD_ BK132.out _) 4).trans rfl⟩ (fun hHeld => ?_)
        clear hK K
        refine norm_ (a' := ?_) ?_ ?_
        rotate_left
        ·show Act.put _ (some 30) _ = _
         simp only [Act.put, l4_, l5_, l6_, i64_w, i32_w]
         rfl
        refine one_ (i := 12) (N := some 31) #[true, true, true, true, true, true, true, true, true, true, true, true, true, false, false] rfl rfl (one_of HT_.out (by kernel_rfl)) (by decide) (fun K hK => ?_)
        refine Kd.R_append_step k52 (w0 := w) w.heap.size (by rfl) (.tmp 20) (.tmp 30) 23 52 (.agg #[(.string ⟨#[]⟩), (.slice none 0 0), (.int .i64 0), (.int .i64 0), (.slice none 0 0)]) 80 rfl Tryz.underlying23 info52 rfl (by decide) (by omega) u128001 x128001_1 (⟨(rd_T52 l0_1 x15_1).f0, (⟨t133⟩ : S47), (⟨t136, t137, t138⟩ : S50)⟩ : S52) [.string ((rd_T52 l0_1 x15_1).f0), .slice Ao31 t133.length co31, .int .i64 t136, .int .i64 t137, .slice Ao30 t138.length co30] (fun k_ => k_ ≠ gb132) (fun k_ => ((fun k_ => k_ ≠ gb132)) k_ ∧ some k_ ≠ (u128001 : Value).ownBlock) rfl rfl ?aP (fun _ hk => hk) ?aF ?aO ?aB ?aS ?aL ?_
        (case aP => exact k52_mkM _ _ _ (⟨(rd_T52 l0_1 x15_1).f0, (⟨t133⟩ : S47), (⟨t136, t137, t138⟩ : S50)⟩ : S52) (Kd.R_mono (Kd.R_types (Kd.R_apart' (HO135.out) (Kd.R_typed HO_128001.out) (by decide)) BK132.out (by decide)) (fun k_ hk => ⟨hk.2, hk.1.2⟩)) (Kd.R_mono (Kd.R_types (Kd.R_apart' (HO140.out) (Kd.R_typed HO_128001.out) (by decide)) BK132.out (by decide)) (fun k_ hk => ⟨hk.2, hk.1.2⟩)))
        (case aB => exact (by repeat (first | (with_reducible first | exact HB.out | apply aA_ | apply aB_ | apply aE_ | refine aG_ ?_ GE125.out | refine aG_ ?_ GE126.out | refine aG_ ?_ GE127.out | refine aG_ ?_ GE132.out) | exact HB.out)))
        (case aF => exact (fun k_ hk => Kd.freshB (g := gb132) (o := .cells #[.string ((rd_T52 l0_1 x15_1).f0), .slice A131_1 ((rd_T52 l0_1 x15_1).f1.f0).length c131_1, .int .i64 ((rd_T52 l0_1 x15_1).f2.f0), .int .i64 ((rd_T52 l0_1 x15_1).f2.f1), .slice A131_4 ((rd_T52 l0_1 x15_1).f2.f2).length c131_4] 52 (0, 0)) (by (with_reducible repeat (first | refine aF_ ?_ _ | refine aH_ ?_ | refine aD_ ?_ _)); exact BK132.out) k_ hk))
        (case aO => exact (by (with_reducible repeat (first | apply Kd.R_alloc | apply Kd.R_drewN | apply Kd.R_drew)); exact Kd.R_mono HO_128001.out (fun _ hk => hk.1.1)))
        (case aS => exact (aL_ (by repeat (first | (with_reducible first | exact HB.out | apply aA_ | apply aB_ | apply aE_ | refine aG_ ?_ GE125.out | refine aG_ ?_ GE126.out | refine aG_ ?_ GE127.out | refine aG_ ?_ GE132.out) | exact HB.out))))
        (case aL => have := LMc20.out; omega)
        intro v142 w32 ho hb hg hat
        rw [← Ny141.out] at ho
        have n0_ := mk0 (Kd.R_over' (by (with_reducible repeat (first | apply Kd.R_alloc | apply Kd.R_drewN | apply Kd.R_drew)); exact HO_128000.out) (Kd.R_typed (by (with_reducible repeat (first | apply Kd.R_alloc | apply Kd.R_drewN | apply Kd.R_drew)); exact HO_128001.out)) (by decide) hg)
        have n1_ := mk0 (blk_grown (g := gb125) (o := .cells #[.slice A0_0 l0_0.length c0_0, .slice (some ad131) l0_1.length c0_1] 25 (0, 0)) (by (with_reducible repeat (first | refine aF_ ?_ _ | refine aH_ ?_ | refine aD_ ?_ _)); exact BK125.out) hg (Kd.R_ne HO_128001.out BK125.out (by decide)))
        have n2_ := mk0 (blk_grown (g := gb126) (o := .cells #[.slice none 0 0, .slice none 0 0] 25 (0, 0)) (by (with_reducible repeat (first | refine aF_ ?_ _ | refine aH_ ?_ | refine aD_ ?_ _)); exact BK126.out) hg (Kd.R_ne HO_128001.out BK126.out (by decide)))
        have n3_ := mk0 (blk_grown (g := gb127) (o := .cells #[.slice Ao12 y128.length co12, u128001] 25 (0, 0)) (by (with_reducible repeat (first | refine aF_ ?_ _ | refine aH_ ?_ | refine aD_ ?_ _)); exact BK127.out) hg (Kd.R_ne HO_128001.out BK127.out (by decide)))
        have n4_ := mk0 (blk_grown (g := gb132) (o := .cells #[.string ((rd_T52 l0_1 x15_1).f0), .slice A131_1 ((rd_T52 l0_1 x15_1).f1.f0).length c131_1, .int .i64 ((rd_T52 l0_1 x15_1).f2.f0), .int .i64 ((rd_T52 l0_1 x15_1).f2.f1), .slice A131_4 ((rd_T52 l0_1 x15_1).f2.f2).length c131_4] 52 (0, 0)) (by (with_reducible repeat (first | refine aF_ ?_ _ | refine aH_ ?_ | refine aD_ ?_ _)); exact BK132.out) hg (Kd.R_away HO_128001.out (fun _ hk => hk.1.1)))
        have n5_ := mk0 (hb)
        have n6_ := mk0 (ho)
        clear HO_128000
        clear BK125
        clear BK126
        clear BK127
        clear BK132
        clear HB
        clear HO_128001
        clear HO135
        clear HO140
        have HO_128000 := n0_
        have BK125 := n1_
        have BK126 := n2_
        have BK127 := n3_
        have BK132 := n4_
        have HB := n5_
        have HO143 := n6_
        clear n0_ n1_ n2_ n3_ n4_ n5_ n6_
        clear ho hb hg hat
        obtain ⟨Ao33, co33, eo33⟩ := Kd.R_slice HO143.out
        (first | subst eo33 | (injection eo33 with f1_ f2_ f3_; have f4_ := f1_.symm; have f5_ := f3_.symm; clear f1_ f2_ f3_; subst f4_; subst f5_))
        refine hK.out _ _ ⟨(aC_ BK127.out 0).trans rfl, (aC_ BK127.out 1).trans rfl, (aC_ BK132.out 0).trans rfl, (aC_ BK132.out 1).trans rfl, (aC_ BK132.out 2).trans rfl, (aC_ BK132.out 3).trans rfl, (aC_ BK132.out 4).trans rfl⟩ (fun hHeld => ?_)
        clear hK K
        refine norm_ (a' := ?_) ?_ ?_
        rotate_left
        ·show Act.put _ (some 31) _ = _
         simp only [Act.put, l4_, l5_, l6_, i64_w, i32_w]
         rfl
        refine pure_ (i := 13) (N := some 32) (v := ?_) (a' := ?_) #[true, true, true, true, true, true, true, true, true, true, true, true, true, true, false] rfl rfl (any_of HT_.out (by kernel_rfl)) (fun _ _ _ h => h) (Or.inl ⟨by rfl, ?_⟩) ?_ ?_
        rotate_left
        ·intro w'
         go_simp
         with_reducible rfl
        rotate_left
        ·simp only [Act.put, l4_, l5_, l6_, i64_w, i32_w]
         rfl
        refine last_ (i := 14) (N := none) #[true, true, true, true, true, true, true, true, true, true, true, true, true, true, true] rfl rfl (one_of HT_.out (by kernel_rfl)) (by decide) (fun K hK => ?_)
        have hs34 : w32.cell? ⟨gb127, 1, none⟩ = some (u128001) := (aC_ BK127.out 1).trans rfl
        have hfs34 := aJ_ BK127.out 1
        have hns34_0 := NB125_127.out
        have hns34_1 := NB126_127.out
        have hns34_3 := NB132_127.out
        have hms34_0 := NB127_125.out
        have hms34_1 := NB127_126.out
        have hms34_3 := NB127_132.out
        refine skip_ (w1 := ?_) (by rfl) rfl ?_ ?_
        rotate_left
        ·go_simp
         rfl
        refine hK.out _ _ ?_
        clear hK K
        refine done_ (done_of HT_.out (by kernel_rfl)) ?_
        try go_wp2
        go_roundg k1
        case measure => have := HK1.out; omega
        case rel => exact ⟨(wrap64 (x15_1 + 1)), (y141), (.slice Ao33 y141.length co33), (by first | rfl | (simp; done) | (simp [*]; done)), H', ⟨by have := HK1.out; omega⟩, ⟨by (with_reducible repeat (first | apply Kd.R_alloc | apply Kd.R_drewN | apply Kd.R_drew)); exact Kd.R_mono (Kd.R_far (p := ⟨gb127, 1, none⟩) (Kd.R_types HO_128000.out BK127.out (by decide)) (fun _ hk => hk.2) (.slice Ao33 y141.length co33)) (fun _ hk => trivial)⟩, ⟨by (with_reducible repeat (first | apply Kd.R_alloc | apply Kd.R_drewN | apply Kd.R_drew)); exact Kd.R_mono (Kd.R_far (p := ⟨gb127, 1, none⟩) (Kd.R_types HO143.out BK127.out (by decide)) (fun _ hk => hk.2) (.slice Ao33 y141.length co33)) (fun _ hk => trivial)⟩, ⟨by (with_reducible repeat (first | refine aF_ ?_ _ | refine aH_ ?_ | refine aD_ ?_ _)); refine aT_ ?_ NB125_127.out _; (with_reducible repeat (first | refine aF_ ?_ _ | refine aH_ ?_ | refine aD_ ?_ _)); exact BK125.out⟩, ⟨by (with_reducible repeat (first | refine aF_ ?_ _ | refine aH_ ?_ | refine aD_ ?_ _)); refine aT_ ?_ NB126_127.out _; (with_reducible repeat (first | refine aF_ ?_ _ | refine aH_ ?_ | refine aD_ ?_ _)); exact BK126.out⟩, ⟨by (with_reducible repeat (first | refine aF_ ?_ _ | refine aH_ ?_ | refine aD_ ?_ _)); refine blk_put (cs := #[.slice Ao12 y128.length co12, u128001]) ?_ 1 _ rfl; (with_reducible repeat (first | refine aF_ ?_ _ | refine aH_ ?_ | refine aD_ ?_ _)); exact BK127.out⟩, ⟨by repeat (first | (with_reducible first | exact HB.out | apply aA_ | apply aB_ | apply aE_ | refine aG_ ?_ GE125.out | refine aG_ ?_ GE126.out | refine aG_ ?_ GE127.out | refine aG_ ?_ GE132.out) | exact HB.out)⟩⟩
       ·rw [if_neg c20] at H
        exact absurd H (by simp)
      ·rw [if_neg c17] at H
       exact absurd H (by simp)
     ·rw [if_neg c16] at H
      exact absurd H (by simp)
    ·rw [if_neg c15] at H
     have c15b0 : decide (x15_1 < (l0_1.length : Int)) = false := l3_ c15
     clear c15
     simp only [Option.some.injEq, Prod.mk.injEq] at H
     obtain ⟨rfl, rfl⟩ := H
     have hnb35 := NB127_125.out
     have hnc35 := NB125_127.out
     have hnb36 := NB127_126.out
     have hnc36 := NB126_127.out
     have hcz37_0 : wr.cell? ⟨gb127, 0, none⟩ = some (.slice Ao12 y128.length co12) := (aC_ BK127.out 0).trans rfl
     have hcz37_1 : wr.cell? ⟨gb127, 1, none⟩ = some (u128001) := (aC_ BK127.out 1).trans rfl
     have hfz37_0 := aJ_ BK127.out 0
     have hfz37_1 := aJ_ BK127.out 1
     have hnb38 := NB126_125.out
     have hnc38 := NB125_126.out
     have hcz39_0 : wr.cell? ⟨gb126, 0, none⟩ = some (.slice none 0 0) := (aC_ BK126.out 0).trans rfl
     have hcz39_1 : wr.cell? ⟨gb126, 1, none⟩ = some (.slice none 0 0) := (aC_ BK126.out 1).trans rfl
     have hfz39_0 := aJ_ BK126.out 0
     have hfz39_1 := aJ_ BK126.out 1
     obtain ⟨Ao40, co40, eo40⟩ := Kd.R_slice HO_128001.out
     subst eo40
     go_wp2
     refine bodyPost_ret (results_cell_row rfl _ _ gb126 25 #[.slice Ao12 y128.length co12, .slice Ao40 x128001_1.length co40] (0, 0) _ rfl (by (with_reducible repeat (first | refine aF_ ?_ _ | refine aH_ ?_ | refine aD_ ?_ _)); refine blk_put (cs := #[.slice Ao12 y128.length co12, .slice none 0 0]) ?_ 1 _ rfl; (with_reducible repeat (first | refine aF_ ?_ _ | refine aH_ ?_ | refine aD_ ?_ _)); refine blk_put (cs := #[.slice none 0 0, .slice none 0 0]) ?_ 0 _ rfl; (with_reducible repeat (first | refine aF_ ?_ _ | refine aH_ ?_ | refine aD_ ?_ _)); exact BK126.out) Tryz.underlying25 rfl (by kernel_rfl)) rfl ?_
     exact ⟨_, _, by first | rfl | (simp [aS_, aR_] <;> rfl) | (simp [*, aS_, aR_] <;> rfl), by (with_reducible repeat (first | apply Kd.R_alloc | apply Kd.R_drewN | apply Kd.R_drew)); exact Kd.R_mono (Kd.R_far (p := ⟨gb126, 1, none⟩) (Kd.R_far (p := ⟨gb126, 0, none⟩) (Kd.R_types HO_128000.out BK126.out (by decide)) (fun _ hk => hk.2) (.slice Ao12 y128.length co12)) (fun _ hk => hk.2) (.slice Ao40 x128001_1.length co40)) (fun _ hk => trivial), by (with_reducible repeat (first | apply Kd.R_alloc | apply Kd.R_drewN | apply Kd.R_drew)); exact Kd.R_mono (Kd.R_far (p := ⟨gb126, 1, none⟩) (Kd.R_far (p := ⟨gb126, 0, none⟩) (Kd.R_types HO_128001.out BK126.out (by decide)) (fun _ hk => hk.2) (.slice Ao12 y128.length co12)) (fun _ hk => hk.2) (.slice Ao40 x128001_1.length co40)) (fun _ hk => trivial), by repeat (first | (with_reducible first | exact HB.out | apply aA_ | apply aB_ | apply aE_ | refine aG_ ?_ GE125.out | refine aG_ ?_ GE126.out | refine aG_ ?_ GE127.out) | exact HB.out)⟩
 ·rw [if_neg c2] at H
  exact absurd H (by simp)
mutual
def virgationref02_Name.j0 : Nat → ByteArray → Bool → Option (Bool)
 | 0, _, _ => none
 | k + 1, x0, x21 => if x21 = true then (some false) else (virgationref02_Name.l0 k x0 0)
def virgationref02_Name.l0 : Nat → ByteArray → Int → Option (Bool)
 | 0, _, _ => none
 | k + 1, x0, x3 => if x3 < (x0.size : Int) then (if 0 ≤ x3 then (if (bt x0 x3) < 97 then (if (bt x0 x3) < 48 then (if (bt x0 x3) = 95 then (virgationref02_Name.l0 k x0 (wrap64 (x3 + 1))) else (some false)) else (if (bt x0 x3) > 57 then (if (bt x0 x3) = 95 then (virgationref02_Name.l0 k x0 (wrap64 (x3 + 1))) else (some false)) else (virgationref02_Name.l0 k x0 (wrap64 (x3 + 1))))) else (if (bt x0 x3) > 122 then (if (bt x0 x3) < 48 then (if (bt x0 x3) = 95 then (virgationref02_Name.l0 k x0 (wrap64 (x3 + 1))) else (some false)) else (if (bt x0 x3) > 57 then (if (bt x0 x3) = 95 then (virgationref02_Name.l0 k x0 (wrap64 (x3 + 1))) else (some false)) else (virgationref02_Name.l0 k x0 (wrap64 (x3 + 1))))) else (virgationref02_Name.l0 k x0 (wrap64 (x3 + 1))))) else (none)) else (some true)
end
def virgationref02_Name.f (k : Nat) (a0 : ByteArray) : Option (Bool) := if (a0.size : Int) < 1 then (virgationref02_Name.j0 k a0 true) else (if (a0.size : Int) > 24 then (virgationref02_Name.j0 k a0 true) else (if 0 < (a0.size : Int) then (if (bt a0 0) < 97 then (virgationref02_Name.j0 k a0 true) else (virgationref02_Name.j0 k a0 (decide ((bt a0 0) > 122)))) else (none)))
set_option maxHeartbeats 8000000 in
set_option maxRecDepth 100000 in
theorem virgationref02_Name.calls (k : Nat) (a0 : ByteArray) (r : Bool) (w : World) (h : virgationref02_Name.f k a0 = some r) :
  Calls Tryz.prog 64 #[.string a0] w fun e w' => e = .returned (.bool r) ∧ Drawn0 w w' := by
 have H : (if (a0.size : Int) < 1 then (virgationref02_Name.j0 k a0 true) else (if (a0.size : Int) > 24 then (virgationref02_Name.j0 k a0 true) else (if 0 < (a0.size : Int) then (if (bt a0 0) < 97 then (virgationref02_Name.j0 k a0 true) else (virgationref02_Name.j0 k a0 (decide ((bt a0 0) > 122)))) else (none)))) = some r := h
 clear h
 have HC2 := mk0 H
 clear H
 go_enter Tryz.func64, Tryz.ntmps64
 go_upto_region 1 with (fail)
 go_cut [21] (fun v21 wc => ∃ (kq : Nat) (x21_1 : Bool), v21 = .bool x21_1 ∧ Aside0 (virgationref02_Name.j0 kq a0 x21_1 = some r) ∧ Aside0 (kq ≤ k) ∧ Drawn0 w wc)
 case first =>
  have H := HC2.out
  clear HC2
  by_cases c3 : (a0.size : Int) < 1
  ·rw [if_pos c3] at H
   have c3b0 : decide ((a0.size : Int) < 1) = true := l2_ c3
   have c3b1 : decide (a0.size < 1) = true := l2_ (by omega)
   clear c3
   (first | rw [c3b0] | (simp only [i64_w, i32_w]; rw [c3b0]) | skip)
   have H' := mk0 H
   clear H
   go_wp2
   go_meet
   case rel => exact ⟨_, (true), (by first | rfl | (simp; done) | (simp [*]; done)), H', ⟨by first | omega | exact Nat.le_refl _⟩, by repeat (first | exact Drawn0.refl _ | apply Drawn0.step)⟩
  ·rw [if_neg c3] at H
   have c3b0 : decide ((a0.size : Int) < 1) = false := l3_ c3
   have c3b1 : decide (a0.size < 1) = false := l3_ (by omega)
   clear c3
   (first | rw [c3b0] | (simp only [i64_w, i32_w]; rw [c3b0]) | skip)
   by_cases c4 : (a0.size : Int) > 24
   ·rw [if_pos c4] at H
    have c4b0 : decide (24 < (a0.size : Int)) = true := l2_ c4
    have c4b1 : decide (24 < a0.size) = true := l2_ (by omega)
    clear c4
    have H' := mk0 H
    clear H
    go_wp2
    go_meet
    case rel => exact ⟨_, (true), (by first | rfl | (simp; done) | (simp [*]; done)), H', ⟨by first | omega | exact Nat.le_refl _⟩, by repeat (first | exact Drawn0.refl _ | apply Drawn0.step)⟩
   ·rw [if_neg c4] at H
    have c4b0 : decide (24 < (a0.size : Int)) = false := l3_ c4
    have c4b1 : decide (24 < a0.size) = false := l3_ (by omega)
    clear c4
    by_cases c5 : 0 < (a0.size : Int)
    ·rw [if_pos c5] at H
     have c5b0 : decide (0 < (a0.size : Int)) = true := l2_ c5
     have c5b1 : decide (0 < a0.size) = true := l2_ (by omega)
     clear c5
     by_cases c7 : (bt a0 0) < 97
     ·rw [if_pos c7] at H
      have c7b0 : decide ((bt a0 0) < 97) = true := l2_ c7
      clear c7
      have H' := mk0 H
      clear H
      have p6 : 0 ≤ (0 : Int) := (by omega)
      have q6 : 0 < a0.size := (by have : (0 : Int) < (a0.size : Int) := l0_ (by first | (with_reducible assumption) | assumption); omega)
      have hx6 : ∀ h : 0 < a0.size, ((a0[0]'h).toNat : Int) = bt a0 0 := bt_at a0 0
      clear p6
      have qi6 : (0 < (a0.size : Int)) = True := eq_true (l0_ (by first | (with_reducible assumption) | assumption))
      replace q6 := eq_true q6
      go_wp2
      go_meet
      case rel => exact ⟨_, (true), (by first | rfl | (simp; done) | (simp [*]; done)), H', ⟨by first | omega | exact Nat.le_refl _⟩, by repeat (first | exact Drawn0.refl _ | apply Drawn0.step)⟩
     ·rw [if_neg c7] at H
      have c7b0 : decide ((bt a0 0) < 97) = false := l3_ c7
      clear c7
      have H' := mk0 H
      clear H
      have p6 : 0 ≤ (0 : Int) := (by omega)
      have q6 : 0 < a0.size := (by have : (0 : Int) < (a0.size : Int) := l0_ (by first | (with_reducible assumption) | assumption); omega)
      have hx6 : ∀ h : 0 < a0.size, ((a0[0]'h).toNat : Int) = bt a0 0 := bt_at a0 0
      clear p6
      have qi6 : (0 < (a0.size : Int)) = True := eq_true (l0_ (by first | (with_reducible assumption) | assumption))
      replace q6 := eq_true q6
      have p8 : 0 ≤ (0 : Int) := (by omega)
      have q8 : 0 < a0.size := (by have : (0 : Int) < (a0.size : Int) := l0_ (by first | (with_reducible assumption) | assumption); omega)
      have hx8 : ∀ h : 0 < a0.size, ((a0[0]'h).toNat : Int) = bt a0 0 := bt_at a0 0
      clear p8
      have qi8 : (0 < (a0.size : Int)) = True := eq_true (l0_ (by first | (with_reducible assumption) | assumption))
      replace q8 := eq_true q8
      go_wp2
      go_meet
      case rel => exact ⟨_, (decide ((bt a0 0) > 122)), (by first | rfl | (simp; done) | (simp [*]; done)), H', ⟨by first | omega | exact Nat.le_refl _⟩, by repeat (first | exact Drawn0.refl _ | apply Drawn0.step)⟩
    ·rw [if_neg c5] at H
     exact absurd H (by simp)
 case rest =>
  clear HC2
  try clear p2
  try clear c3
  try clear c3b0
  try clear c3b1
  try clear c4
  try clear c4b0
  try clear c4b1
  try clear c5
  try clear c5b0
  try clear c5b1
  try clear c6
  try clear p6
  try clear q6
  try clear hx6
  try clear qi6
  try clear c7
  try clear c7b0
  try clear p8
  try clear q8
  try clear hx8
  try clear qi8
  try clear p6
  try clear p8
  try clear q6
  try clear q8
  obtain ⟨kq, x21_1, rfl, HA, HJ1, ⟨mc1, rfl⟩⟩ := hcut
  cases kq with
  | zero => exact absurd HA.out (by simp [virgationref02_Name.j0])
  | succ kj1 =>
   have H := HA.out
   clear HA
   simp only [virgationref02_Name.j0] at H
   by_cases c9 : x21_1 = true
   ·subst c9
    have H1 : (some false) = some r := by rw [if_pos rfl] at H; exact H
    clear H
    have H := H1
    clear H1
    obtain rfl := l13_ H
    go_wp2
    go_ret
    exact ⟨by first | rfl | (simp; done) | (simp [*]; done), by repeat (first | exact Drawn0.refl _ | apply Drawn0.step)⟩
   ·replace c9 := Bool.eq_false_iff.mpr c9
    subst c9
    have H1 : (virgationref02_Name.l0 kj1 a0 0) = some r := by rw [if_neg (show ¬ (false = true) by decide)] at H; exact H
    clear H
    have H := H1
    clear H1
    have H' := mk0 H
    clear H
    go_wp2
    go_loopg [3] kj1 (fun kq v3 w' => ∃ (x3_2 : Int), v3 = .int .i64 x3_2 ∧ Aside0 (virgationref02_Name.l0 kq a0 x3_2 = some r) ∧ Aside0 (kq ≤ kj1) ∧ Drawn0 w w')
    case atStart => exact ⟨(0), (by first | rfl | (simp; done) | (simp [*]; done)), H', ⟨Nat.le_refl _⟩, by repeat (first | exact Drawn0.refl _ | apply Drawn0.step)⟩
    case round =>
     clear H'
     try clear c1
     try clear p2
     try clear c3
     try clear c3b0
     try clear c3b1
     try clear c4
     try clear c4b0
     try clear c4b1
     try clear c5
     try clear c5b0
     try clear c5b1
     try clear c6
     try clear p6
     try clear q6
     try clear hx6
     try clear qi6
     try clear c7
     try clear c7b0
     try clear p8
     try clear q8
     try clear hx8
     try clear qi8
     try clear c9
     try clear p2
     try clear p6
     try clear p8
     try clear q6
     try clear q8
     obtain ⟨x3_2, rfl, HA, HK2, ⟨m2, rfl⟩⟩ := hrel
     cases gk with
     | zero => exact absurd HA.out (by simp [virgationref02_Name.l0])
     | succ k2 =>
      have H := HA.out
      clear HA
      simp only [virgationref02_Name.l0] at H
      by_cases c10 : x3_2 < (a0.size : Int)
      ·rw [if_pos c10] at H
       have c10b0 : decide (x3_2 < (a0.size : Int)) = true := l2_ c10
       clear c10
       by_cases c11 : 0 ≤ x3_2
       ·rw [if_pos c11] at H
        have c11b0 : decide (0 ≤ x3_2) = true := l2_ c11
        clear c11
        by_cases c13 : (bt a0 x3_2) < 97
        ·rw [if_pos c13] at H
         have c13b0 : decide ((bt a0 x3_2) < 97) = true := l2_ c13
         clear c13
         by_cases c15 : (bt a0 x3_2) < 48
         ·rw [if_pos c15] at H
          have c15b0 : decide ((bt a0 x3_2) < 48) = true := l2_ c15
          clear c15
          by_cases c17 : (bt a0 x3_2) = 95
          ·rw [if_pos c17] at H
           have c17b0 : ((bt a0 x3_2) == 95) = true := beq_iff_eq.mpr c17
           have c17b1 : ((bt a0 x3_2) != 95) = false := bne_eq_false_iff_eq.mpr c17
           clear c17
           have H' := mk0 H
           clear H
           have p12 : 0 ≤ (x3_2 : Int) := l0_ (by first | (with_reducible assumption) | assumption)
           have q12 : x3_2 < (a0.size : Int) := l0_ (by first | (with_reducible assumption) | assumption)
           have hx12 := bt_at a0 x3_2
           replace p12 := eq_true p12
           replace q12 := eq_true q12
           have p14 : 0 ≤ (x3_2 : Int) := l0_ (by first | (with_reducible assumption) | assumption)
           have q14 : x3_2 < (a0.size : Int) := l0_ (by first | (with_reducible assumption) | assumption)
           have hx14 := bt_at a0 x3_2
           replace p14 := eq_true p14
           replace q14 := eq_true q14
           have p16 : 0 ≤ (x3_2 : Int) := l0_ (by first | (with_reducible assumption) | assumption)
           have q16 : x3_2 < (a0.size : Int) := l0_ (by first | (with_reducible assumption) | assumption)
           have hx16 := bt_at a0 x3_2
           replace p16 := eq_true p16
           replace q16 := eq_true q16
           go_wp2
           go_roundg k2
           case measure => have := HJ1.out; have := HK2.out; omega
           case rel => exact ⟨(wrap64 (x3_2 + 1)), (by first | rfl | (simp; done) | (simp [*]; done)), H', ⟨by have := HJ1.out; have := HK2.out; omega⟩, by repeat (first | exact Drawn0.refl _ | apply Drawn0.step)⟩
          ·rw [if_neg c17] at H
           have c17b0 : ((bt a0 x3_2) == 95) = false := beq_eq_false_iff_ne.mpr c17
           have c17b1 : ((bt a0 x3_2) != 95) = true := bne_iff_ne.mpr c17
           obtain rfl := l13_ H
           have p12 : 0 ≤ (x3_2 : Int) := l0_ (by first | (with_reducible assumption) | assumption)
           have q12 : x3_2 < (a0.size : Int) := l0_ (by first | (with_reducible assumption) | assumption)
           have hx12 := bt_at a0 x3_2
           replace p12 := eq_true p12
           replace q12 := eq_true q12
           have p14 : 0 ≤ (x3_2 : Int) := l0_ (by first | (with_reducible assumption) | assumption)
           have q14 : x3_2 < (a0.size : Int) := l0_ (by first | (with_reducible assumption) | assumption)
           have hx14 := bt_at a0 x3_2
           replace p14 := eq_true p14
           replace q14 := eq_true q14
           have p16 : 0 ≤ (x3_2 : Int) := l0_ (by first | (with_reducible assumption) | assumption)
           have q16 : x3_2 < (a0.size : Int) := l0_ (by first | (with_reducible assumption) | assumption)
           have hx16 := bt_at a0 x3_2
           replace p16 := eq_true p16
           replace q16 := eq_true q16
           go_wp2
           go_ret
           exact ⟨by first | rfl | (simp; done) | (simp [*]; done), by repeat (first | exact Drawn0.refl _ | apply Drawn0.step)⟩
         ·rw [if_neg c15] at H
          have c15b0 : decide ((bt a0 x3_2) < 48) = false := l3_ c15
          clear c15
          by_cases c19 : (bt a0 x3_2) > 57
          ·rw [if_pos c19] at H
           have c19b0 : decide (57 < (bt a0 x3_2)) = true := l2_ c19
           clear c19
           by_cases c21 : (bt a0 x3_2) = 95
           ·rw [if_pos c21] at H
            have c21b0 : ((bt a0 x3_2) == 95) = true := beq_iff_eq.mpr c21
            have c21b1 : ((bt a0 x3_2) != 95) = false := bne_eq_false_iff_eq.mpr c21
            clear c21
            have H' := mk0 H
            clear H
            have p12 : 0 ≤ (x3_2 : Int) := l0_ (by first | (with_reducible assumption) | assumption)
            have q12 : x3_2 < (a0.size : Int) := l0_ (by first | (with_reducible assumption) | assumption)
            have hx12 := bt_at a0 x3_2
            replace p12 := eq_true p12
            replace q12 := eq_true q12
            have p14 : 0 ≤ (x3_2 : Int) := l0_ (by first | (with_reducible assumption) | assumption)
            have q14 : x3_2 < (a0.size : Int) := l0_ (by first | (with_reducible assumption) | assumption)
            have hx14 := bt_at a0 x3_2
            replace p14 := eq_true p14
            replace q14 := eq_true q14
            have p18 : 0 ≤ (x3_2 : Int) := l0_ (by first | (with_reducible assumption) | assumption)
            have q18 : x3_2 < (a0.size : Int) := l0_ (by first | (with_reducible assumption) | assumption)
            have hx18 := bt_at a0 x3_2
            replace p18 := eq_true p18
            replace q18 := eq_true q18
            have p20 : 0 ≤ (x3_2 : Int) := l0_ (by first | (with_reducible assumption) | assumption)
            have q20 : x3_2 < (a0.size : Int) := l0_ (by first | (with_reducible assumption) | assumption)
            have hx20 := bt_at a0 x3_2
            replace p20 := eq_true p20
            replace q20 := eq_true q20
            go_wp2
            go_roundg k2
            case measure => have := HJ1.out; have := HK2.out; omega
            case rel => exact ⟨(wrap64 (x3_2 + 1)), (by first | rfl | (simp; done) | (simp [*]; done)), H', ⟨by have := HJ1.out; have := HK2.out; omega⟩, by repeat (first | exact Drawn0.refl _ | apply Drawn0.step)⟩
           ·rw [if_neg c21] at H
            have c21b0 : ((bt a0 x3_2) == 95) = false := beq_eq_false_iff_ne.mpr c21
            have c21b1 : ((bt a0 x3_2) != 95) = true := bne_iff_ne.mpr c21
            obtain rfl := l13_ H
            have p12 : 0 ≤ (x3_2 : Int) := l0_ (by first | (with_reducible assumption) | assumption)
            have q12 : x3_2 < (a0.size : Int) := l0_ (by first | (with_reducible assumption) | assumption)
            have hx12 := bt_at a0 x3_2
            replace p12 := eq_true p12
            replace q12 := eq_true q12
            have p14 : 0 ≤ (x3_2 : Int) := l0_ (by first | (with_reducible assumption) | assumption)
            have q14 : x3_2 < (a0.size : Int) := l0_ (by first | (with_reducible assumption) | assumption)
            have hx14 := bt_at a0 x3_2
            replace p14 := eq_true p14
            replace q14 := eq_true q14
            have p18 : 0 ≤ (x3_2 : Int) := l0_ (by first | (with_reducible assumption) | assumption)
            have q18 : x3_2 < (a0.size : Int) := l0_ (by first | (with_reducible assumption) | assumption)
            have hx18 := bt_at a0 x3_2
            replace p18 := eq_true p18
            replace q18 := eq_true q18
            have p20 : 0 ≤ (x3_2 : Int) := l0_ (by first | (with_reducible assumption) | assumption)
            have q20 : x3_2 < (a0.size : Int) := l0_ (by first | (with_reducible assumption) | assumption)
            have hx20 := bt_at a0 x3_2
            replace p20 := eq_true p20
            replace q20 := eq_true q20
            go_wp2
            go_ret
            exact ⟨by first | rfl | (simp; done) | (simp [*]; done), by repeat (first | exact Drawn0.refl _ | apply Drawn0.step)⟩
          ·rw [if_neg c19] at H
           have c19b0 : decide (57 < (bt a0 x3_2)) = false := l3_ c19
           clear c19
           have H' := mk0 H
           clear H
           have p12 : 0 ≤ (x3_2 : Int) := l0_ (by first | (with_reducible assumption) | assumption)
           have q12 : x3_2 < (a0.size : Int) := l0_ (by first | (with_reducible assumption) | assumption)
           have hx12 := bt_at a0 x3_2
           replace p12 := eq_true p12
           replace q12 := eq_true q12
           have p14 : 0 ≤ (x3_2 : Int) := l0_ (by first | (with_reducible assumption) | assumption)
           have q14 : x3_2 < (a0.size : Int) := l0_ (by first | (with_reducible assumption) | assumption)
           have hx14 := bt_at a0 x3_2
           replace p14 := eq_true p14
           replace q14 := eq_true q14
           have p18 : 0 ≤ (x3_2 : Int) := l0_ (by first | (with_reducible assumption) | assumption)
           have q18 : x3_2 < (a0.size : Int) := l0_ (by first | (with_reducible assumption) | assumption)
           have hx18 := bt_at a0 x3_2
           replace p18 := eq_true p18
           replace q18 := eq_true q18
           go_wp2
           go_roundg k2
           case measure => have := HJ1.out; have := HK2.out; omega
           case rel => exact ⟨(wrap64 (x3_2 + 1)), (by first | rfl | (simp; done) | (simp [*]; done)), H', ⟨by have := HJ1.out; have := HK2.out; omega⟩, by repeat (first | exact Drawn0.refl _ | apply Drawn0.step)⟩
        ·rw [if_neg c13] at H
         have c13b0 : decide ((bt a0 x3_2) < 97) = false := l3_ c13
         clear c13
         by_cases c23 : (bt a0 x3_2) > 122
         ·rw [if_pos c23] at H
          have c23b0 : decide (122 < (bt a0 x3_2)) = true := l2_ c23
          clear c23
          by_cases c25 : (bt a0 x3_2) < 48
          ·rw [if_pos c25] at H
           have c25b0 : decide ((bt a0 x3_2) < 48) = true := l2_ c25
           clear c25
           by_cases c27 : (bt a0 x3_2) = 95
           ·rw [if_pos c27] at H
            have c27b0 : ((bt a0 x3_2) == 95) = true := beq_iff_eq.mpr c27
            have c27b1 : ((bt a0 x3_2) != 95) = false := bne_eq_false_iff_eq.mpr c27
            clear c27
            have H' := mk0 H
            clear H
            have p12 : 0 ≤ (x3_2 : Int) := l0_ (by first | (with_reducible assumption) | assumption)
            have q12 : x3_2 < (a0.size : Int) := l0_ (by first | (with_reducible assumption) | assumption)
            have hx12 := bt_at a0 x3_2
            replace p12 := eq_true p12
            replace q12 := eq_true q12
            have p22 : 0 ≤ (x3_2 : Int) := l0_ (by first | (with_reducible assumption) | assumption)
            have q22 : x3_2 < (a0.size : Int) := l0_ (by first | (with_reducible assumption) | assumption)
            have hx22 := bt_at a0 x3_2
            replace p22 := eq_true p22
            replace q22 := eq_true q22
            have p24 : 0 ≤ (x3_2 : Int) := l0_ (by first | (with_reducible assumption) | assumption)
            have q24 : x3_2 < (a0.size : Int) := l0_ (by first | (with_reducible assumption) | assumption)
            have hx24 := bt_at a0 x3_2
            replace p24 := eq_true p24
            replace q24 := eq_true q24
            have p26 : 0 ≤ (x3_2 : Int) := l0_ (by first | (with_reducible assumption) | assumption)
            have q26 : x3_2 < (a0.size : Int) := l0_ (by first | (with_reducible assumption) | assumption)
            have hx26 := bt_at a0 x3_2
            replace p26 := eq_true p26
            replace q26 := eq_true q26
            go_wp2
            go_roundg k2
            case measure => have := HJ1.out; have := HK2.out; omega
            case rel => exact ⟨(wrap64 (x3_2 + 1)), (by first | rfl | (simp; done) | (simp [*]; done)), H', ⟨by have := HJ1.out; have := HK2.out; omega⟩, by repeat (first | exact Drawn0.refl _ | apply Drawn0.step)⟩
           ·rw [if_neg c27] at H
            have c27b0 : ((bt a0 x3_2) == 95) = false := beq_eq_false_iff_ne.mpr c27
            have c27b1 : ((bt a0 x3_2) != 95) = true := bne_iff_ne.mpr c27
            obtain rfl := l13_ H
            have p12 : 0 ≤ (x3_2 : Int) := l0_ (by first | (with_reducible assumption) | assumption)
            have q12 : x3_2 < (a0.size : Int) := l0_ (by first | (with_reducible assumption) | assumption)
            have hx12 := bt_at a0 x3_2
            replace p12 := eq_true p12
            replace q12 := eq_true q12
            have p22 : 0 ≤ (x3_2 : Int) := l0_ (by first | (with_reducible assumption) | assumption)
            have q22 : x3_2 < (a0.size : Int) := l0_ (by first | (with_reducible assumption) | assumption)
            have hx22 := bt_at a0 x3_2
            replace p22 := eq_true p22
            replace q22 := eq_true q22
            have p24 : 0 ≤ (x3_2 : Int) := l0_ (by first | (with_reducible assumption) | assumption)
            have q24 : x3_2 < (a0.size : Int) := l0_ (by first | (with_reducible assumption) | assumption)
            have hx24 := bt_at a0 x3_2
            replace p24 := eq_true p24
            replace q24 := eq_true q24
            have p26 : 0 ≤ (x3_2 : Int) := l0_ (by first | (with_reducible assumption) | assumption)
            have q26 : x3_2 < (a0.size : Int) := l0_ (by first | (with_reducible assumption) | assumption)
            have hx26 := bt_at a0 x3_2
            replace p26 := eq_true p26
            replace q26 := eq_true q26
            go_wp2
            go_ret
            exact ⟨by first | rfl | (simp; done) | (simp [*]; done), by repeat (first | exact Drawn0.refl _ | apply Drawn0.step)⟩
          ·rw [if_neg c25] at H
           have c25b0 : decide ((bt a0 x3_2) < 48) = false := l3_ c25
           clear c25
           by_cases c29 : (bt a0 x3_2) > 57
           ·rw [if_pos c29] at H
            have c29b0 : decide (57 < (bt a0 x3_2)) = true := l2_ c29
            clear c29
            by_cases c31 : (bt a0 x3_2) = 95
            ·rw [if_pos c31] at H
             have c31b0 : ((bt a0 x3_2) == 95) = true := beq_iff_eq.mpr c31
             have c31b1 : ((bt a0 x3_2) != 95) = false := bne_eq_false_iff_eq.mpr c31
             clear c31
             have H' := mk0 H
             clear H
             have p12 : 0 ≤ (x3_2 : Int) := l0_ (by first | (with_reducible assumption) | assumption)
             have q12 : x3_2 < (a0.size : Int) := l0_ (by first | (with_reducible assumption) | assumption)
             have hx12 := bt_at a0 x3_2
             replace p12 := eq_true p12
             replace q12 := eq_true q12
             have p22 : 0 ≤ (x3_2 : Int) := l0_ (by first | (with_reducible assumption) | assumption)
             have q22 : x3_2 < (a0.size : Int) := l0_ (by first | (with_reducible assumption) | assumption)
             have hx22 := bt_at a0 x3_2
             replace p22 := eq_true p22
             replace q22 := eq_true q22
             have p24 : 0 ≤ (x3_2 : Int) := l0_ (by first | (with_reducible assumption) | assumption)
             have q24 : x3_2 < (a0.size : Int) := l0_ (by first | (with_reducible assumption) | assumption)
             have hx24 := bt_at a0 x3_2
             replace p24 := eq_true p24
             replace q24 := eq_true q24
             have p28 : 0 ≤ (x3_2 : Int) := l0_ (by first | (with_reducible assumption) | assumption)
             have q28 : x3_2 < (a0.size : Int) := l0_ (by first | (with_reducible assumption) | assumption)
             have hx28 := bt_at a0 x3_2
             replace p28 := eq_true p28
             replace q28 := eq_true q28
             have p30 : 0 ≤ (x3_2 : Int) := l0_ (by first | (with_reducible assumption) | assumption)
             have q30 : x3_2 < (a0.size : Int) := l0_ (by first | (with_reducible assumption) | assumption)
             have hx30 := bt_at a0 x3_2
             replace p30 := eq_true p30
             replace q30 := eq_true q30
             go_wp2
             go_roundg k2
             case measure => have := HJ1.out; have := HK2.out; omega
             case rel => exact ⟨(wrap64 (x3_2 + 1)), (by first | rfl | (simp; done) | (simp [*]; done)), H', ⟨by have := HJ1.out; have := HK2.out; omega⟩, by repeat (first | exact Drawn0.refl _ | apply Drawn0.step)⟩
            ·rw [if_neg c31] at H
             have c31b0 : ((bt a0 x3_2) == 95) = false := beq_eq_false_iff_ne.mpr c31
             have c31b1 : ((bt a0 x3_2) != 95) = true := bne_iff_ne.mpr c31
             obtain rfl := l13_ H
             have p12 : 0 ≤ (x3_2 : Int) := l0_ (by first | (with_reducible assumption) | assumption)
             have q12 : x3_2 < (a0.size : Int) := l0_ (by first | (with_reducible assumption) | assumption)
             have hx12 := bt_at a0 x3_2
             replace p12 := eq_true p12
             replace q12 := eq_true q12
             have p22 : 0 ≤ (x3_2 : Int) := l0_ (by first | (with_reducible assumption) | assumption)
             have q22 : x3_2 < (a0.size : Int) := l0_ (by first | (with_reducible assumption) | assumption)
             have hx22 := bt_at a0 x3_2
             replace p22 := eq_true p22
             replace q22 := eq_true q22
             have p24 : 0 ≤ (x3_2 : Int) := l0_ (by first | (with_reducible assumption) | assumption)
             have q24 : x3_2 < (a0.size : Int) := l0_ (by first | (with_reducible assumption) | assumption)
             have hx24 := bt_at a0 x3_2
             replace p24 := eq_true p24
             replace q24 := eq_true q24
             have p28 : 0 ≤ (x3_2 : Int) := l0_ (by first | (with_reducible assumption) | assumption)
             have q28 : x3_2 < (a0.size : Int) := l0_ (by first | (with_reducible assumption) | assumption)
             have hx28 := bt_at a0 x3_2
             replace p28 := eq_true p28
             replace q28 := eq_true q28
             have p30 : 0 ≤ (x3_2 : Int) := l0_ (by first | (with_reducible assumption) | assumption)
             have q30 : x3_2 < (a0.size : Int) := l0_ (by first | (with_reducible assumption) | assumption)
             have hx30 := bt_at a0 x3_2
             replace p30 := eq_true p30
             replace q30 := eq_true q30
             go_wp2
             go_ret
             exact ⟨by first | rfl | (simp; done) | (simp [*]; done), by repeat (first | exact Drawn0.refl _ | apply Drawn0.step)⟩
           ·rw [if_neg c29] at H
            have c29b0 : decide (57 < (bt a0 x3_2)) = false := l3_ c29
            clear c29
            have H' := mk0 H
            clear H
            have p12 : 0 ≤ (x3_2 : Int) := l0_ (by first | (with_reducible assumption) | assumption)
            have q12 : x3_2 < (a0.size : Int) := l0_ (by first | (with_reducible assumption) | assumption)
            have hx12 := bt_at a0 x3_2
            replace p12 := eq_true p12
            replace q12 := eq_true q12
            have p22 : 0 ≤ (x3_2 : Int) := l0_ (by first | (with_reducible assumption) | assumption)
            have q22 : x3_2 < (a0.size : Int) := l0_ (by first | (with_reducible assumption) | assumption)
            have hx22 := bt_at a0 x3_2
            replace p22 := eq_true p22
            replace q22 := eq_true q22
            have p24 : 0 ≤ (x3_2 : Int) := l0_ (by first | (with_reducible assumption) | assumption)
            have q24 : x3_2 < (a0.size : Int) := l0_ (by first | (with_reducible assumption) | assumption)
            have hx24 := bt_at a0 x3_2
            replace p24 := eq_true p24
            replace q24 := eq_true q24
            have p28 : 0 ≤ (x3_2 : Int) := l0_ (by first | (with_reducible assumption) | assumption)
            have q28 : x3_2 < (a0.size : Int) := l0_ (by first | (with_reducible assumption) | assumption)
            have hx28 := bt_at a0 x3_2
            replace p28 := eq_true p28
            replace q28 := eq_true q28
            go_wp2
            go_roundg k2
            case measure => have := HJ1.out; have := HK2.out; omega
            case rel => exact ⟨(wrap64 (x3_2 + 1)), (by first | rfl | (simp; done) | (simp [*]; done)), H', ⟨by have := HJ1.out; have := HK2.out; omega⟩, by repeat (first | exact Drawn0.refl _ | apply Drawn0.step)⟩
         ·rw [if_neg c23] at H
          have c23b0 : decide (122 < (bt a0 x3_2)) = false := l3_ c23
          clear c23
          have H' := mk0 H
          clear H
          have p12 : 0 ≤ (x3_2 : Int) := l0_ (by first | (with_reducible assumption) | assumption)
          have q12 : x3_2 < (a0.size : Int) := l0_ (by first | (with_reducible assumption) | assumption)
          have hx12 := bt_at a0 x3_2
          replace p12 := eq_true p12
          replace q12 := eq_true q12
          have p22 : 0 ≤ (x3_2 : Int) := l0_ (by first | (with_reducible assumption) | assumption)
          have q22 : x3_2 < (a0.size : Int) := l0_ (by first | (with_reducible assumption) | assumption)
          have hx22 := bt_at a0 x3_2
          replace p22 := eq_true p22
          replace q22 := eq_true q22
          go_wp2
          go_roundg k2
          case measure => have := HJ1.out; have := HK2.out; omega
          case rel => exact ⟨(wrap64 (x3_2 + 1)), (by first | rfl | (simp; done) | (simp [*]; done)), H', ⟨by have := HJ1.out; have := HK2.out; omega⟩, by repeat (first | exact Drawn0.refl _ | apply Drawn0.step)⟩
       ·rw [if_neg c11] at H
        exact absurd H (by simp)
      ·rw [if_neg c10] at H
       have c10b0 : decide (x3_2 < (a0.size : Int)) = false := l3_ c10
       clear c10
       obtain rfl := l13_ H
       go_wp2
       go_ret
       exact ⟨by first | rfl | (simp; done) | (simp [*]; done), by repeat (first | exact Drawn0.refl _ | apply Drawn0.step)⟩
mutual
def virgationref02_Symbols.l0 : Nat → List (S71) → List (S71) → Int → Int → Option (Bool)
 | 0, _, _, _, _ => none
 | k + 1, x0, x10, x11, x12 => if x12 < x11 then (if 0 ≤ x12 then (if x12 < (x10.length : Int) then ((virgationref02_Name.f k ((rd_T71 x10 x12).f0)).bind fun t166 => (if t166 = true then (if ((rd_T71 x10 x12).f1) < 0 then (virgationref02_Symbols.j1 k x0 x12 x10 x11 x12 true ((rd_T71 x10 x12).f0) ((rd_T71 x10 x12).f1)) else (virgationref02_Symbols.j1 k x0 x12 x10 x11 x12 (decide (((rd_T71 x10 x12).f1) > 4)) ((rd_T71 x10 x12).f0) ((rd_T71 x10 x12).f1))) else (virgationref02_Symbols.j1 k x0 x12 x10 x11 x12 true ((rd_T71 x10 x12).f0) ((rd_T71 x10 x12).f1)))) else (none)) else (none)) else (some true)
def virgationref02_Symbols.j1 : Nat → List (S71) → Int → List (S71) → Int → Int → Bool → ByteArray → Int → Option (Bool)
 | 0, _, _, _, _, _, _, _, _ => none
 | k + 1, x0, x3, x10, x11, x12, x30, x166000, x166001 => if x30 = true then (some false) else (if 0 ≤ x3 then (if x3 ≤ (x0.length : Int) then ((some (x0.take (x3 : Int).toNat : List (S71))).bind fun y167 => (virgationref02_Symbols.l1 k x0 x10 x11 x12 y167 (y167.length : Int) 0 x166000 x166001)) else (none)) else (none))
def virgationref02_Symbols.l1 : Nat → List (S71) → List (S71) → Int → Int → List (S71) → Int → Int → ByteArray → Int → Option (Bool)
 | 0, _, _, _, _, _, _, _, _, _ => none
 | k + 1, x0, x10, x11, x12, x33, x34, x35, x166000, x166001 => if x35 < x34 then (if 0 ≤ x35 then (if x35 < (x33.length : Int) then (if x166000.toList = ((rd_T71 x33 x35).f0).toList then (some false) else (virgationref02_Symbols.l1 k x0 x10 x11 x12 x33 x34 (wrap64 (x35 + 1)) x166000 x166001)) else (none)) else (none)) else (virgationref02_Symbols.l0 k x0 x10 x11 (wrap64 (x12 + 1)))
end
def virgationref02_Symbols.f (k : Nat) (l0 : List (S71)) : Option (Bool) := if (l0.length : Int) > 24 then (some false) else (virgationref02_Symbols.l0 k l0 l0 (l0.length : Int) 0)
set_option maxHeartbeats 8000000 in
set_option maxRecDepth 100000 in
theorem virgationref02_Symbols.calls (k : Nat) (A0 : Option Addr) (c0 : Nat) (l0 : List (S71)) (r : Bool) (w : World) (hr0 : Kd.C k71 w A0 l0.length l0) (hc0 : l0.length ≤ c0) (h : virgationref02_Symbols.f k l0 = some r) :
  Calls Tryz.prog 36 #[.slice A0 l0.length c0] w fun e w' => e = .returned (.bool r) ∧ Below w.heap.size w w' := by
 have hu71 := Tryz.underlying71
 have HR0 := mk0 hr0
 have HC0 := mk0 hc0
 clear hr0 hc0
 have HB := mk0 (Below.refl w.heap.size w)
 have H : (if (l0.length : Int) > 24 then (some false) else (virgationref02_Symbols.l0 k l0 l0 (l0.length : Int) 0)) = some r := h
 clear h
 by_cases c2 : (l0.length : Int) > 24
 ·rw [if_pos c2] at H
  have c2b0 : decide (24 < (l0.length : Int)) = true := l2_ c2
  have c2b1 : decide (24 < l0.length) = true := l2_ (by omega)
  clear c2
  obtain rfl := l13_ H
  go_enter Tryz.func36, Tryz.ntmps36
  go_wp2
  go_ret
  exact ⟨by first | rfl | (simp [aS_, aR_] <;> rfl) | (simp [*, aS_, aR_] <;> rfl), by repeat (first | (with_reducible first | exact HB.out | apply aA_ | apply aB_ | apply aE_) | exact HB.out)⟩
 ·rw [if_neg c2] at H
  have c2b0 : decide (24 < (l0.length : Int)) = false := l3_ c2
  have c2b1 : decide (24 < l0.length) = false := l3_ (by omega)
  clear c2
  have H' := mk0 H
  clear H
  go_enter Tryz.func36, Tryz.ntmps36
  go_wp2
  go_loopg [12] k (fun kq v12 w' => ∃ (x12_1 : Int), v12 = .int .i64 x12_1 ∧ Aside0 (virgationref02_Symbols.l0 kq l0 l0 (l0.length : Int) x12_1 = some r) ∧ Aside0 (kq ≤ k) ∧ Aside0 (Below w.heap.size w w'))
  case atStart => exact ⟨(0), (by first | rfl | (simp; done) | (simp [*]; done)), H', ⟨Nat.le_refl _⟩, ⟨by repeat (first | (with_reducible first | exact HB.out | apply aA_ | apply aB_ | apply aE_) | exact HB.out)⟩⟩
  case round =>
   clear H'
   try clear c2
   try clear c2b0
   try clear c2b1
   try clear p2
   obtain ⟨x12_1, rfl, HA, HK1, HB⟩ := hrel
   cases gk with
   | zero => exact absurd HA.out (by simp [virgationref02_Symbols.l0])
   | succ k1 =>
    have H := HA.out
    clear HA
    simp only [virgationref02_Symbols.l0] at H
    by_cases c3 : x12_1 < (l0.length : Int)
    ·rw [if_pos c3] at H
     have c3b0 : decide (x12_1 < (l0.length : Int)) = true := l2_ c3
     clear c3
     by_cases c4 : 0 ≤ x12_1
     ·rw [if_pos c4] at H
      have c4b0 : decide (0 ≤ x12_1) = true := l2_ c4
      clear c4
      by_cases c5 : x12_1 < (l0.length : Int)
      ·rw [if_pos c5] at H
       have c5b0 : decide (x12_1 < (l0.length : Int)) = true := l2_ c5
       clear c5
       have HC6 := mk0 H
       clear H
       have p164 : 0 ≤ (x12_1 : Int) := l0_ (by first | (with_reducible assumption) | assumption)
       have q164 : x12_1 < (l0.length : Int) := l0_ (by first | (with_reducible assumption) | assumption)
       obtain ⟨ad164, e164, hx164_0, hx164_1⟩ := at_T71 HR0.out x12_1 p164 q164
       cases e164
       replace hx164_0 := (HB.out.cell (l1_ w _ hx164_0)).trans hx164_0
       replace hx164_1 := (HB.out.cell (l1_ w _ hx164_1)).trans hx164_1
       replace p164 := eq_true p164
       replace q164 := eq_true q164
       go_upto_region 6 with (first | ((with_reducible refine gate_dst (N := 4) rfl ?_); refine box_event ?hg (N := 4) ?hd (cs := #[.string (⟨#[]⟩ : ByteArray), .int .i64 0]) (t := 71) ?hr ?_; (case hd => rfl); (case hg => rfl); (case hr => first | (go_simp; done) | (go_simp; rfl)); intro gb165 hg w7 hbox hb; have n0_ := mk0 (aN_ (by repeat (first | (with_reducible first | exact HB.out | apply aA_ | apply aB_ | apply aE_) | exact HB.out)) hb); have n1_ := mk0 (hbox); have n2_ := mk0 ((by rw [hg]; exact (aL_ (by repeat (first | (with_reducible first | exact HB.out | apply aA_ | apply aB_ | apply aE_) | exact HB.out))) : w.heap.size ≤ gb165)); have n3_ := mk0 ((by rw [hg]; exact (aL_ (by repeat (first | (with_reducible first | exact HB.out | apply aA_ | apply aB_ | apply aE_) | exact HB.out))) : w.heap.size ≤ gb165)); clear HB; have HB := n0_; have BK165 := n1_; have GW165 := n2_; have GE165 := n3_; clear n0_ n1_ n2_ n3_; clear hb hbox hg; have hcz8_0 : w7.cell? ⟨gb165, 0, none⟩ = some (.string (⟨#[]⟩ : ByteArray)) := (aC_ BK165.out 0).trans rfl; have hcz8_1 : w7.cell? ⟨gb165, 1, none⟩ = some (.int .i64 0) := (aC_ BK165.out 1).trans rfl; have hfz8_0 := aJ_ BK165.out 0; have hfz8_1 := aJ_ BK165.out 1))
       (try simp only [Act.put, l4_, l5_, l6_])
       go_cut [30] (fun v30 wc => ∃ (kq : Nat) (x30_5 : Bool), v30 = .bool x30_5 ∧ Aside0 (virgationref02_Symbols.j1 kq l0 x12_1 l0 (l0.length : Int) x12_1 x30_5 ((rd_T71 l0 x12_1).f0) ((rd_T71 l0 x12_1).f1) = some r) ∧ Aside0 (kq ≤ k1) ∧ Aside0 (wc.heap[gb165]? = some (.cells #[.string ((rd_T71 l0 x12_1).f0), .int .i64 ((rd_T71 l0 x12_1).f1)] 71 (0, 0))) ∧ Aside0 (Below w.heap.size w wc))
       case first =>
        have H := HC6.out
        clear HC6
        replace H := Option.bind_eq_some_iff.mp H
        obtain ⟨t166, A90, H⟩ := H
        replace H : (if t166 = true then (if ((rd_T71 l0 x12_1).f1) < 0 then (virgationref02_Symbols.j1 k1 l0 x12_1 l0 (l0.length : Int) x12_1 true ((rd_T71 l0 x12_1).f0) ((rd_T71 l0 x12_1).f1)) else (virgationref02_Symbols.j1 k1 l0 x12_1 l0 (l0.length : Int) x12_1 (decide (((rd_T71 l0 x12_1).f1) > 4)) ((rd_T71 l0 x12_1).f0) ((rd_T71 l0 x12_1).f1))) else (virgationref02_Symbols.j1 k1 l0 x12_1 l0 (l0.length : Int) x12_1 true ((rd_T71 l0 x12_1).f0) ((rd_T71 l0 x12_1).f1))) = some r := H
        have A9 := mk0 A90
        clear A90
        by_cases c10 : t166 = true
        ·subst c10
         have H1 : (if ((rd_T71 l0 x12_1).f1) < 0 then (virgationref02_Symbols.j1 k1 l0 x12_1 l0 (l0.length : Int) x12_1 true ((rd_T71 l0 x12_1).f0) ((rd_T71 l0 x12_1).f1)) else (virgationref02_Symbols.j1 k1 l0 x12_1 l0 (l0.length : Int) x12_1 (decide (((rd_T71 l0 x12_1).f1) > 4)) ((rd_T71 l0 x12_1).f0) ((rd_T71 l0 x12_1).f1))) = some r := by rw [if_pos rfl] at H; exact H
         clear H
         have H := H1
         clear H1
         by_cases c11 : ((rd_T71 l0 x12_1).f1) < 0
         ·rw [if_pos c11] at H
          have c11b0 : decide (((rd_T71 l0 x12_1).f1) < 0) = true := l2_ c11
          clear c11
          (first | rw [c11b0] | (simp only [i64_w, i32_w]; rw [c11b0]) | skip)
          have H' := mk0 H
          clear H
          have hcz12_0 : w7.cell? ⟨gb165, 0, none⟩ = some (.string (⟨#[]⟩ : ByteArray)) := (aC_ BK165.out 0).trans rfl
          have hcz12_1 : w7.cell? ⟨gb165, 1, none⟩ = some (.int .i64 0) := (aC_ BK165.out 1).trans rfl
          have hfz12_0 := aJ_ BK165.out 0
          have hfz12_1 := aJ_ BK165.out 1
          go_wp2_with (first | ((with_reducible refine gate_callee (f := 64) rfl ?_); refine goesL_ (some 19) rfl rfl Tryz.func64 (by kernel_rfl) rfl #[.string ((rd_T71 l0 x12_1).f0)] rfl (by (try simp only [List.map_toArray, List.map_cons, List.map_nil]); first | done | rfl | (simp only [l9_, List.length_take]; rfl)) ?_; (with_reducible refine (virgationref02_Name.calls k1 ((rd_T71 l0 x12_1).f0) true _ A9.out).mono ?_); rintro e w' ⟨rfl, ⟨nd, rfl⟩⟩; refine ⟨_, rfl, ?_⟩))
          go_meet
          case rel => exact ⟨_, (true), (by first | rfl | (simp; done) | (simp [*]; done)), H', ⟨by have := HK1.out; first | omega | exact Nat.le_refl _⟩, ⟨by (with_reducible repeat (first | refine aF_ ?_ _ | refine aH_ ?_ | refine aD_ ?_ _)); refine blk_put (cs := #[.string ((rd_T71 l0 x12_1).f0), .int .i64 0]) ?_ 1 _ rfl; (with_reducible repeat (first | refine aF_ ?_ _ | refine aH_ ?_ | refine aD_ ?_ _)); refine blk_put (cs := #[.string (⟨#[]⟩ : ByteArray), .int .i64 0]) ?_ 0 _ rfl; (with_reducible repeat (first | refine aF_ ?_ _ | refine aH_ ?_ | refine aD_ ?_ _)); exact BK165.out⟩, ⟨by repeat (first | (with_reducible first | exact HB.out | apply aA_ | apply aB_ | apply aE_ | refine aG_ ?_ GE165.out) | exact HB.out)⟩⟩
         ·rw [if_neg c11] at H
          have c11b0 : decide (((rd_T71 l0 x12_1).f1) < 0) = false := l3_ c11
          clear c11
          (first | rw [c11b0] | (simp only [i64_w, i32_w]; rw [c11b0]) | skip)
          have H' := mk0 H
          clear H
          have hcz13_0 : w7.cell? ⟨gb165, 0, none⟩ = some (.string (⟨#[]⟩ : ByteArray)) := (aC_ BK165.out 0).trans rfl
          have hcz13_1 : w7.cell? ⟨gb165, 1, none⟩ = some (.int .i64 0) := (aC_ BK165.out 1).trans rfl
          have hfz13_0 := aJ_ BK165.out 0
          have hfz13_1 := aJ_ BK165.out 1
          go_wp2_with (first | ((with_reducible refine gate_callee (f := 64) rfl ?_); refine goesL_ (some 19) rfl rfl Tryz.func64 (by kernel_rfl) rfl #[.string ((rd_T71 l0 x12_1).f0)] rfl (by (try simp only [List.map_toArray, List.map_cons, List.map_nil]); first | done | rfl | (simp only [l9_, List.length_take]; rfl)) ?_; (with_reducible refine (virgationref02_Name.calls k1 ((rd_T71 l0 x12_1).f0) true _ A9.out).mono ?_); rintro e w' ⟨rfl, ⟨nd, rfl⟩⟩; refine ⟨_, rfl, ?_⟩))
          go_meet
          case rel => exact ⟨_, (decide (((rd_T71 l0 x12_1).f1) > 4)), (by first | rfl | (simp; done) | (simp [*]; done)), H', ⟨by have := HK1.out; first | omega | exact Nat.le_refl _⟩, ⟨by (with_reducible repeat (first | refine aF_ ?_ _ | refine aH_ ?_ | refine aD_ ?_ _)); refine blk_put (cs := #[.string ((rd_T71 l0 x12_1).f0), .int .i64 0]) ?_ 1 _ rfl; (with_reducible repeat (first | refine aF_ ?_ _ | refine aH_ ?_ | refine aD_ ?_ _)); refine blk_put (cs := #[.string (⟨#[]⟩ : ByteArray), .int .i64 0]) ?_ 0 _ rfl; (with_reducible repeat (first | refine aF_ ?_ _ | refine aH_ ?_ | refine aD_ ?_ _)); exact BK165.out⟩, ⟨by repeat (first | (with_reducible first | exact HB.out | apply aA_ | apply aB_ | apply aE_ | refine aG_ ?_ GE165.out) | exact HB.out)⟩⟩
        ·replace c10 := Bool.eq_false_iff.mpr c10
         subst c10
         have H1 : (virgationref02_Symbols.j1 k1 l0 x12_1 l0 (l0.length : Int) x12_1 true ((rd_T71 l0 x12_1).f0) ((rd_T71 l0 x12_1).f1)) = some r := by rw [if_neg (show ¬ (false = true) by decide)] at H; exact H
         clear H
         have H := H1
         clear H1
         have H' := mk0 H
         clear H
         have hcz14_0 : w7.cell? ⟨gb165, 0, none⟩ = some (.string (⟨#[]⟩ : ByteArray)) := (aC_ BK165.out 0).trans rfl
         have hcz14_1 : w7.cell? ⟨gb165, 1, none⟩ = some (.int .i64 0) := (aC_ BK165.out 1).trans rfl
         have hfz14_0 := aJ_ BK165.out 0
         have hfz14_1 := aJ_ BK165.out 1
         go_wp2_with (first | ((with_reducible refine gate_callee (f := 64) rfl ?_); refine goesL_ (some 19) rfl rfl Tryz.func64 (by kernel_rfl) rfl #[.string ((rd_T71 l0 x12_1).f0)] rfl (by (try simp only [List.map_toArray, List.map_cons, List.map_nil]); first | done | rfl | (simp only [l9_, List.length_take]; rfl)) ?_; (with_reducible refine (virgationref02_Name.calls k1 ((rd_T71 l0 x12_1).f0) false _ A9.out).mono ?_); rintro e w' ⟨rfl, ⟨nd, rfl⟩⟩; refine ⟨_, rfl, ?_⟩))
         go_meet
         case rel => exact ⟨_, (true), (by first | rfl | (simp; done) | (simp [*]; done)), H', ⟨by have := HK1.out; first | omega | exact Nat.le_refl _⟩, ⟨by (with_reducible repeat (first | refine aF_ ?_ _ | refine aH_ ?_ | refine aD_ ?_ _)); refine blk_put (cs := #[.string ((rd_T71 l0 x12_1).f0), .int .i64 0]) ?_ 1 _ rfl; (with_reducible repeat (first | refine aF_ ?_ _ | refine aH_ ?_ | refine aD_ ?_ _)); refine blk_put (cs := #[.string (⟨#[]⟩ : ByteArray), .int .i64 0]) ?_ 0 _ rfl; (with_reducible repeat (first | refine aF_ ?_ _ | refine aH_ ?_ | refine aD_ ?_ _)); exact BK165.out⟩, ⟨by repeat (first | (with_reducible first | exact HB.out | apply aA_ | apply aB_ | apply aE_ | refine aG_ ?_ GE165.out) | exact HB.out)⟩⟩
       case rest =>
        clear HC6
        try clear c1
        try clear p1
        try clear q1
        try clear hx1
        try clear c2
        try clear c2b0
        try clear c2b1
        try clear p2
        try clear c3
        try clear c3b0
        try clear c4
        try clear c4b0
        try clear c5
        try clear c5b0
        try clear c6
        try clear c10
        try clear c11
        try clear c11b0
        try clear hcz12_0
        try clear hcz12_1
        try clear hcz13_0
        try clear hcz13_1
        try clear hcz14_0
        try clear hcz14_1
        try clear hcz8_0
        try clear hcz8_1
        try clear hfz12_0
        try clear hfz12_1
        try clear hfz13_0
        try clear hfz13_1
        try clear hfz14_0
        try clear hfz14_1
        try clear hfz8_0
        try clear hfz8_1
        try clear hx164_0
        try clear hx164_1
        try clear p164
        try clear p2
        try clear q164
        obtain ⟨kq, x30_5, rfl, HA, HJ5, BK165, HB⟩ := hcut
        cases kq with
        | zero => exact absurd HA.out (by simp [virgationref02_Symbols.j1])
        | succ kj5 =>
         have H := HA.out
         clear HA
         simp only [virgationref02_Symbols.j1] at H
         by_cases c15 : x30_5 = true
         ·subst c15
          have H1 : (some false) = some r := by rw [if_pos rfl] at H; exact H
          clear H
          have H := H1
          clear H1
          obtain rfl := l13_ H
          go_wp2
          go_ret
          exact ⟨by first | rfl | (simp [aS_, aR_] <;> rfl) | (simp [*, aS_, aR_] <;> rfl), by repeat (first | (with_reducible first | exact HB.out | apply aA_ | apply aB_ | apply aE_ | refine aG_ ?_ GE165.out) | exact HB.out)⟩
         ·replace c15 := Bool.eq_false_iff.mpr c15
          subst c15
          have H1 : (if 0 ≤ x12_1 then (if x12_1 ≤ (l0.length : Int) then ((some (l0.take (x12_1 : Int).toNat : List (S71))).bind fun y167 => (virgationref02_Symbols.l1 kj5 l0 l0 (l0.length : Int) x12_1 y167 (y167.length : Int) 0 ((rd_T71 l0 x12_1).f0) ((rd_T71 l0 x12_1).f1))) else (none)) else (none)) = some r := by rw [if_neg (show ¬ (false = true) by decide)] at H; exact H
          clear H
          have H := H1
          clear H1
          by_cases c16 : 0 ≤ x12_1
          ·rw [if_pos c16] at H
           have c16b0 := eq_true c16
           have c16b1 : decide (0 ≤ x12_1) = true := l2_ c16
           clear c16
           by_cases c17 : x12_1 ≤ (l0.length : Int)
           ·rw [if_pos c17] at H
            have c17b0 := eq_true c17
            have c17b1 : decide (x12_1 ≤ (l0.length : Int)) = true := l2_ c17
            clear c17
            obtain ⟨y167, hy167⟩ : ∃ y_ : List (S71), y_ = (l0.take (x12_1 : Int).toNat) := ⟨_, rfl⟩
            replace H : (virgationref02_Symbols.l1 kj5 l0 l0 (l0.length : Int) x12_1 y167 (y167.length : Int) 0 ((rd_T71 l0 x12_1).f0) ((rd_T71 l0 x12_1).f1)) = some r := by first | (rw [hy167]; with_reducible exact H) | (have H2_ := (l21_ _ _).symm.trans H; rw [hy167]; with_reducible exact H2_) | (have H2_ := (l21_ _ _).symm.trans H; with_reducible exact H2_) | with_reducible exact H | (rw [hy167]; exact H) | exact H
            have Ny167 := mk0 hy167
            clear hy167
            have H' := mk0 H
            clear H
            have q18 : (x12_1 : Int) ≤ ((l0.length : Int) : Int) := l0_ (by first | (with_reducible assumption) | assumption)
            obtain ⟨i018, hi018, _, hsz18, _⟩ := info_parts info71
            have hroom18 : l0.length ≤ c0 := HC0.out
            have hC18 : Kd.C k71 _ (some ad164) l0.length l0 := HR0.out
            have hcut18 := cut_to (P := Tryz.prog) 22 71 .i64 Tryz.underlying22 hi018 (some ad164) l0.length c0 x12_1 (l0_ (by first | (with_reducible assumption) | assumption)) q18 hroom18
            have hr18 := Kd.C_take (m := (x12_1 : Int).toNat) hC18 (by omega)
            have hy18 : y167.length = (x12_1 : Int).toNat := (by rw [Ny167.out, List.length_take]; omega)
            rw [← Ny167.out] at hr18
            rw [← hy18] at hcut18
            have HR170 := mk0 hr18
            have HC170 := mk0 (show y167.length ≤ c0 from by omega)
            clear hr18 hC18 hroom18 hi018 hsz18
            have KY18 := mk0 hy18
            clear hy18
            replace q18 := eq_true q18
            go_wp2
            go_loopg [35] kj5 (fun kq v35 w' => ∃ (x35_3 : Int), v35 = .int .i64 x35_3 ∧ Aside0 (virgationref02_Symbols.l1 kq l0 l0 (l0.length : Int) x12_1 y167 (y167.length : Int) x35_3 ((rd_T71 l0 x12_1).f0) ((rd_T71 l0 x12_1).f1) = some r) ∧ Aside0 (kq ≤ kj5) ∧ Aside0 (w'.heap[gb165]? = some (.cells #[.string ((rd_T71 l0 x12_1).f0), .int .i64 ((rd_T71 l0 x12_1).f1)] 71 (0, 0))) ∧ Aside0 (Below w.heap.size w w'))
            case atStart => exact ⟨(0), (by first | rfl | (simp; done) | (simp [*]; done)), H', ⟨Nat.le_refl _⟩, ⟨by (with_reducible repeat (first | refine aF_ ?_ _ | refine aH_ ?_ | refine aD_ ?_ _)); exact BK165.out⟩, ⟨by repeat (first | (with_reducible first | exact HB.out | apply aA_ | apply aB_ | apply aE_ | refine aG_ ?_ GE165.out) | exact HB.out)⟩⟩
            case round =>
             clear H'
             try clear c1
             try clear p1
             try clear q1
             try clear hx1
             try clear c2
             try clear c2b0
             try clear c2b1
             try clear p2
             try clear c3
             try clear c3b0
             try clear c4
             try clear c4b0
             try clear c5
             try clear c5b0
             try clear c6
             try clear c10
             try clear c11
             try clear c11b0
             try clear c15
             try clear c16
             try clear c16b0
             try clear c16b1
             try clear p16
             try clear q16
             try clear hx16
             try clear c17
             try clear c17b0
             try clear c17b1
             try clear q18
             try clear hcz12_0
             try clear hcz12_1
             try clear hcz13_0
             try clear hcz13_1
             try clear hcz14_0
             try clear hcz14_1
             try clear hcz8_0
             try clear hcz8_1
             try clear hfz12_0
             try clear hfz12_1
             try clear hfz13_0
             try clear hfz13_1
             try clear hfz14_0
             try clear hfz14_1
             try clear hfz8_0
             try clear hfz8_1
             try clear hx164_0
             try clear hx164_1
             try clear p1
             try clear p164
             try clear p2
             try clear q1
             try clear q164
             try clear q18
             obtain ⟨x35_3, rfl, HA, HK3, BK165, HB⟩ := hrel
             cases gk with
             | zero => exact absurd HA.out (by simp [virgationref02_Symbols.l1])
             | succ k3 =>
              have H := HA.out
              clear HA
              simp only [virgationref02_Symbols.l1] at H
              by_cases c19 : x35_3 < (y167.length : Int)
              ·rw [if_pos c19] at H
               have c19b0 : decide (x35_3 < (y167.length : Int)) = true := l2_ c19
               clear c19
               by_cases c20 : 0 ≤ x35_3
               ·rw [if_pos c20] at H
                have c20b0 : decide (0 ≤ x35_3) = true := l2_ c20
                clear c20
                by_cases c21 : x35_3 < (y167.length : Int)
                ·rw [if_pos c21] at H
                 have c21b0 : decide (x35_3 < (y167.length : Int)) = true := l2_ c21
                 clear c21
                 by_cases c22 : ((rd_T71 l0 x12_1).f0).toList = ((rd_T71 y167 x35_3).f0).toList
                 ·rw [if_pos c22] at H
                  have c22b0 : (((rd_T71 l0 x12_1).f0).toList == ((rd_T71 y167 x35_3).f0).toList) = true := beq_iff_eq.mpr c22
                  have c22b1 : (((rd_T71 l0 x12_1).f0).toList != ((rd_T71 y167 x35_3).f0).toList) = false := bne_eq_false_iff_eq.mpr c22
                  clear c22
                  obtain rfl := l13_ H
                  have p171 : 0 ≤ (x35_3 : Int) := l0_ (by first | (with_reducible assumption) | assumption)
                  have q171 : x35_3 < (y167.length : Int) := l0_ (by first | (with_reducible assumption) | assumption)
                  obtain ⟨ad171, e171, hx171_0, hx171_1⟩ := at_T71 HR170.out x35_3 p171 q171
                  obtain rfl : ad164 = ad171 := (by injection e171)
                  replace hx171_0 := (HB.out.cell (l1_ w _ hx171_0)).trans hx171_0
                  replace hx171_1 := (HB.out.cell (l1_ w _ hx171_1)).trans hx171_1
                  replace p171 := eq_true p171
                  replace q171 := eq_true q171
                  go_wp2_with (first | ((with_reducible refine gate_dst (N := 6) rfl ?_); refine box_event ?hg (N := 6) ?hd (cs := #[.string (⟨#[]⟩ : ByteArray), .int .i64 0]) (t := 71) ?hr ?_; (case hd => rfl); (case hg => rfl); (case hr => first | (go_simp; done) | (go_simp; rfl)); intro gb172 hg w23 hbox hb; have n0_ := mk0 (aK_ (g := gb165) (o := .cells #[.string ((rd_T71 l0 x12_1).f0), .int .i64 ((rd_T71 l0 x12_1).f1)] 71 (0, 0)) (by (with_reducible repeat (first | refine aF_ ?_ _ | refine aH_ ?_ | refine aD_ ?_ _)); exact BK165.out) hb); have n1_ := mk0 (aN_ (by repeat (first | (with_reducible first | exact HB.out | apply aA_ | apply aB_ | apply aE_ | refine aG_ ?_ GE165.out) | exact HB.out)) hb); have n2_ := mk0 (hbox); have n3_ := mk0 ((by rw [hg]; exact (aL_ (by repeat (first | (with_reducible first | exact HB.out | apply aA_ | apply aB_ | apply aE_ | refine aG_ ?_ GE165.out) | exact HB.out))) : w.heap.size ≤ gb172)); have n4_ := mk0 ((by rw [hg]; exact (aL_ (by repeat (first | (with_reducible first | exact HB.out | apply aA_ | apply aB_ | apply aE_ | refine aG_ ?_ GE165.out) | exact HB.out))) : w.heap.size ≤ gb172)); have n5_ := mk0 ((by rw [hg]; exact Nat.ne_of_lt (blk_lt (g := gb165) (o := .cells #[.string ((rd_T71 l0 x12_1).f0), .int .i64 ((rd_T71 l0 x12_1).f1)] 71 (0, 0)) (by (with_reducible repeat (first | refine aF_ ?_ _ | refine aH_ ?_ | refine aD_ ?_ _)); exact BK165.out)) : gb165 ≠ gb172)); have n6_ := mk0 ((by rw [hg]; exact Nat.ne_of_gt (blk_lt (g := gb165) (o := .cells #[.string ((rd_T71 l0 x12_1).f0), .int .i64 ((rd_T71 l0 x12_1).f1)] 71 (0, 0)) (by (with_reducible repeat (first | refine aF_ ?_ _ | refine aH_ ?_ | refine aD_ ?_ _)); exact BK165.out)) : gb172 ≠ gb165)); clear BK165; clear HB; have BK165 := n0_; have HB := n1_; have BK172 := n2_; have GW172 := n3_; have GE172 := n4_; have NB165_172 := n5_; have NB172_165 := n6_; clear n0_ n1_ n2_ n3_ n4_ n5_ n6_; clear hb hbox hg; have hnb24 := NB172_165.out; have hnc24 := NB165_172.out; have hcz25_0 : w23.cell? ⟨gb172, 0, none⟩ = some (.string (⟨#[]⟩ : ByteArray)) := (aC_ BK172.out 0).trans rfl; have hcz25_1 : w23.cell? ⟨gb172, 1, none⟩ = some (.int .i64 0) := (aC_ BK172.out 1).trans rfl; have hfz25_0 := aJ_ BK172.out 0; have hfz25_1 := aJ_ BK172.out 1; have hcz26_0 : w23.cell? ⟨gb165, 0, none⟩ = some (.string ((rd_T71 l0 x12_1).f0)) := (aC_ BK165.out 0).trans rfl; have hcz26_1 : w23.cell? ⟨gb165, 1, none⟩ = some (.int .i64 ((rd_T71 l0 x12_1).f1)) := (aC_ BK165.out 1).trans rfl; have hfz26_0 := aJ_ BK165.out 0; have hfz26_1 := aJ_ BK165.out 1))
                  go_ret
                  exact ⟨by first | rfl | (simp [aS_, aR_] <;> rfl) | (simp [*, aS_, aR_] <;> rfl), by repeat (first | (with_reducible first | exact HB.out | apply aA_ | apply aB_ | apply aE_ | refine aG_ ?_ GE165.out | refine aG_ ?_ GE172.out) | exact HB.out)⟩
                 ·rw [if_neg c22] at H
                  have c22b0 : (((rd_T71 l0 x12_1).f0).toList == ((rd_T71 y167 x35_3).f0).toList) = false := beq_eq_false_iff_ne.mpr c22
                  have c22b1 : (((rd_T71 l0 x12_1).f0).toList != ((rd_T71 y167 x35_3).f0).toList) = true := bne_iff_ne.mpr c22
                  have H' := mk0 H
                  clear H
                  have p171 : 0 ≤ (x35_3 : Int) := l0_ (by first | (with_reducible assumption) | assumption)
                  have q171 : x35_3 < (y167.length : Int) := l0_ (by first | (with_reducible assumption) | assumption)
                  obtain ⟨ad171, e171, hx171_0, hx171_1⟩ := at_T71 HR170.out x35_3 p171 q171
                  obtain rfl : ad164 = ad171 := (by injection e171)
                  replace hx171_0 := (HB.out.cell (l1_ w _ hx171_0)).trans hx171_0
                  replace hx171_1 := (HB.out.cell (l1_ w _ hx171_1)).trans hx171_1
                  replace p171 := eq_true p171
                  replace q171 := eq_true q171
                  go_wp2_with (first | ((with_reducible refine gate_dst (N := 6) rfl ?_); refine box_event ?hg (N := 6) ?hd (cs := #[.string (⟨#[]⟩ : ByteArray), .int .i64 0]) (t := 71) ?hr ?_; (case hd => rfl); (case hg => rfl); (case hr => first | (go_simp; done) | (go_simp; rfl)); intro gb172 hg w27 hbox hb; have n0_ := mk0 (aK_ (g := gb165) (o := .cells #[.string ((rd_T71 l0 x12_1).f0), .int .i64 ((rd_T71 l0 x12_1).f1)] 71 (0, 0)) (by (with_reducible repeat (first | refine aF_ ?_ _ | refine aH_ ?_ | refine aD_ ?_ _)); exact BK165.out) hb); have n1_ := mk0 (aN_ (by repeat (first | (with_reducible first | exact HB.out | apply aA_ | apply aB_ | apply aE_ | refine aG_ ?_ GE165.out) | exact HB.out)) hb); have n2_ := mk0 (hbox); have n3_ := mk0 ((by rw [hg]; exact (aL_ (by repeat (first | (with_reducible first | exact HB.out | apply aA_ | apply aB_ | apply aE_ | refine aG_ ?_ GE165.out) | exact HB.out))) : w.heap.size ≤ gb172)); have n4_ := mk0 ((by rw [hg]; exact (aL_ (by repeat (first | (with_reducible first | exact HB.out | apply aA_ | apply aB_ | apply aE_ | refine aG_ ?_ GE165.out) | exact HB.out))) : w.heap.size ≤ gb172)); have n5_ := mk0 ((by rw [hg]; exact Nat.ne_of_lt (blk_lt (g := gb165) (o := .cells #[.string ((rd_T71 l0 x12_1).f0), .int .i64 ((rd_T71 l0 x12_1).f1)] 71 (0, 0)) (by (with_reducible repeat (first | refine aF_ ?_ _ | refine aH_ ?_ | refine aD_ ?_ _)); exact BK165.out)) : gb165 ≠ gb172)); have n6_ := mk0 ((by rw [hg]; exact Nat.ne_of_gt (blk_lt (g := gb165) (o := .cells #[.string ((rd_T71 l0 x12_1).f0), .int .i64 ((rd_T71 l0 x12_1).f1)] 71 (0, 0)) (by (with_reducible repeat (first | refine aF_ ?_ _ | refine aH_ ?_ | refine aD_ ?_ _)); exact BK165.out)) : gb172 ≠ gb165)); clear BK165; clear HB; have BK165 := n0_; have HB := n1_; have BK172 := n2_; have GW172 := n3_; have GE172 := n4_; have NB165_172 := n5_; have NB172_165 := n6_; clear n0_ n1_ n2_ n3_ n4_ n5_ n6_; clear hb hbox hg; have hnb28 := NB172_165.out; have hnc28 := NB165_172.out; have hcz29_0 : w27.cell? ⟨gb172, 0, none⟩ = some (.string (⟨#[]⟩ : ByteArray)) := (aC_ BK172.out 0).trans rfl; have hcz29_1 : w27.cell? ⟨gb172, 1, none⟩ = some (.int .i64 0) := (aC_ BK172.out 1).trans rfl; have hfz29_0 := aJ_ BK172.out 0; have hfz29_1 := aJ_ BK172.out 1; have hcz30_0 : w27.cell? ⟨gb165, 0, none⟩ = some (.string ((rd_T71 l0 x12_1).f0)) := (aC_ BK165.out 0).trans rfl; have hcz30_1 : w27.cell? ⟨gb165, 1, none⟩ = some (.int .i64 ((rd_T71 l0 x12_1).f1)) := (aC_ BK165.out 1).trans rfl; have hfz30_0 := aJ_ BK165.out 0; have hfz30_1 := aJ_ BK165.out 1))
                  go_roundg k3
                  case measure => have := HK1.out; have := HJ5.out; have := HK3.out; omega
                  case rel => exact ⟨(wrap64 (x35_3 + 1)), (by first | rfl | (simp; done) | (simp [*]; done)), H', ⟨by have := HK1.out; have := HJ5.out; have := HK3.out; omega⟩, ⟨by (with_reducible repeat (first | refine aF_ ?_ _ | refine aH_ ?_ | refine aD_ ?_ _)); refine aT_ ?_ NB165_172.out _; (with_reducible repeat (first | refine aF_ ?_ _ | refine aH_ ?_ | refine aD_ ?_ _)); refine aT_ ?_ NB165_172.out _; (with_reducible repeat (first | refine aF_ ?_ _ | refine aH_ ?_ | refine aD_ ?_ _)); exact BK165.out⟩, ⟨by repeat (first | (with_reducible first | exact HB.out | apply aA_ | apply aB_ | apply aE_ | refine aG_ ?_ GE165.out | refine aG_ ?_ GE172.out) | exact HB.out)⟩⟩
                ·rw [if_neg c21] at H
                 exact absurd H (by simp)
               ·rw [if_neg c20] at H
                exact absurd H (by simp)
              ·rw [if_neg c19] at H
               have c19b0 : decide (x35_3 < (y167.length : Int)) = false := l3_ c19
               clear c19
               have H' := mk0 H
               clear H
               go_wp2
               go_roundg k3
               case measure => have := HK1.out; have := HJ5.out; have := HK3.out; omega
               case rel => exact ⟨(wrap64 (x12_1 + 1)), (by first | rfl | (simp; done) | (simp [*]; done)), H', ⟨by have := HK1.out; have := HJ5.out; have := HK3.out; omega⟩, ⟨by repeat (first | (with_reducible first | exact HB.out | apply aA_ | apply aB_ | apply aE_ | refine aG_ ?_ GE165.out) | exact HB.out)⟩⟩
           ·rw [if_neg c17] at H
            exact absurd H (by simp)
          ·rw [if_neg c16] at H
           exact absurd H (by simp)
      ·rw [if_neg c5] at H
       exact absurd H (by simp)
     ·rw [if_neg c4] at H
      exact absurd H (by simp)
    ·rw [if_neg c3] at H
     have c3b0 : decide (x12_1 < (l0.length : Int)) = false := l3_ c3
     clear c3
     obtain rfl := l13_ H
     go_wp2
     go_ret
     exact ⟨by first | rfl | (simp [aS_, aR_] <;> rfl) | (simp [*, aS_, aR_] <;> rfl), by repeat (first | (with_reducible first | exact HB.out | apply aA_ | apply aB_ | apply aE_) | exact HB.out)⟩
mutual
def virgationref02_Nodes.l0 : Nat → Int → Int → Int → Int → Int → List (S50) → Option (Int)
 | 0, _, _, _, _, _, _ => none
 | k + 1, x1, x5, x6, x174000, x174001, x174002 => if x6 < (x174002.length : Int) then (if x5 ≤ x1 then (if 0 ≤ x6 then ((virgationref02_Nodes.f k ((rd_T50 x174002 x6).f0) ((rd_T50 x174002 x6).f1) ((rd_T50 x174002 x6).f2) (wrap64 (x1 - x5))).bind fun t175 => (virgationref02_Nodes.l0 k x1 (wrap64 (x5 + t175)) (wrap64 (x6 + 1)) x174000 x174001 x174002)) else (none)) else (some x5)) else (some x5)
def virgationref02_Nodes.f : Nat → Int → Int → List (S50) → Int → Option (Int)
 | 0, _, _, _, _ => none
 | k + 1, a0_0, a0_1, l0_2, a1 => virgationref02_Nodes.l0 k a1 1 0 a0_0 a0_1 l0_2
end
set_option maxHeartbeats 8000000 in
set_option maxRecDepth 100000 in
theorem virgationref02_Nodes.calls (k : Nat) : ∀ (a0_0 : Int) (a0_1 : Int) (A0_2 : Option Addr) (c0_2 : Nat) (l0_2 : List (S50)) (a1 : Int) (r : Int) (w : World) (hr0_2 : Kd.C k50 w A0_2 l0_2.length l0_2) (hc0_2 : l0_2.length ≤ c0_2) (h : virgationref02_Nodes.f k a0_0 a0_1 l0_2 a1 = some r),
  Calls Tryz.prog 65 #[.agg #[.int .i64 a0_0, .int .i64 a0_1, .slice A0_2 l0_2.length c0_2], .int .i64 a1] w fun e w' => e = .returned (.int .i64 r) ∧ Below w.heap.size w w' := by
 induction k using Nat.strongRecOn with
 | _ k ih =>
 intro a0_0 a0_1 A0_2 c0_2 l0_2 a1 r w hr0_2 hc0_2 h
 cases k with
 | zero => exact absurd h (by simp [virgationref02_Nodes.f])
 | succ k =>
 simp only [virgationref02_Nodes.f] at h
 have hu50 := Tryz.underlying50
 have HR0_2 := mk0 hr0_2
 have HC0_2 := mk0 hc0_2
 clear hr0_2 hc0_2
 have HB := mk0 (Below.refl w.heap.size w)
 have H : (virgationref02_Nodes.l0 k a1 1 0 a0_0 a0_1 l0_2) = some r := h
 clear h
 have H' := mk0 H
 clear H
 go_enter Tryz.func65, Tryz.ntmps65
 go_wp2_with (first | ((with_reducible refine gate_dst (N := 2) rfl ?_); refine box_event ?hg (N := 2) ?hd (cs := #[.int .i64 a0_0, .int .i64 a0_1, .slice A0_2 l0_2.length c0_2]) (t := 50) ?hr ?_; (case hd => rfl); (case hg => rfl); (case hr => first | (go_simp; done) | (go_simp; rfl)); intro gb173 hg w3 hbox hb; have n0_ := mk0 (aN_ (by repeat (first | (with_reducible first | exact HB.out | apply aA_ | apply aB_ | apply aE_) | exact HB.out)) hb); have n1_ := mk0 (hbox); have n2_ := mk0 ((by rw [hg]; exact (aL_ (by repeat (first | (with_reducible first | exact HB.out | apply aA_ | apply aB_ | apply aE_) | exact HB.out))) : w.heap.size ≤ gb173)); have n3_ := mk0 ((by rw [hg]; exact (aL_ (by repeat (first | (with_reducible first | exact HB.out | apply aA_ | apply aB_ | apply aE_) | exact HB.out))) : w.heap.size ≤ gb173)); clear HB; have HB := n0_; have BK173 := n1_; have GW173 := n2_; have GE173 := n3_; clear n0_ n1_ n2_ n3_; clear hb hbox hg))
 go_loopg [5, 6] k (fun kq v5 v6 w' => ∃ (x5_1 : Int) (x6_1 : Int), v5 = .int .i64 x5_1 ∧ v6 = .int .i64 x6_1 ∧ Aside0 (virgationref02_Nodes.l0 kq a1 x5_1 x6_1 a0_0 a0_1 l0_2 = some r) ∧ Aside0 (kq ≤ k) ∧ Aside0 (w'.heap[gb173]? = some (.cells #[.int .i64 a0_0, .int .i64 a0_1, (.slice A0_2 l0_2.length c0_2)] 50 (0, 0))) ∧ Aside0 (Below w.heap.size w w'))
 case atStart => exact ⟨(1), (0), (by first | rfl | (simp; done) | (simp [*]; done)), (by first | rfl | (simp; done) | (simp [*]; done)), H', ⟨Nat.le_refl _⟩, ⟨by (with_reducible repeat (first | refine aF_ ?_ _ | refine aH_ ?_ | refine aD_ ?_ _)); exact BK173.out⟩, ⟨by repeat (first | (with_reducible first | exact HB.out | apply aA_ | apply aB_ | apply aE_ | refine aG_ ?_ GE173.out) | exact HB.out)⟩⟩
 case round =>
  clear H'
  try clear p2
  obtain ⟨x5_1, x6_1, rfl, rfl, HA, HK1, BK173, HB⟩ := hrel
  cases gk with
  | zero => exact absurd HA.out (by simp [virgationref02_Nodes.l0])
  | succ k1 =>
   have H := HA.out
   clear HA
   simp only [virgationref02_Nodes.l0] at H
   by_cases c4 : x6_1 < (l0_2.length : Int)
   ·rw [if_pos c4] at H
    have c4b0 : decide (x6_1 < (l0_2.length : Int)) = true := l2_ c4
    clear c4
    by_cases c5 : x5_1 ≤ a1
    ·rw [if_pos c5] at H
     have c5b0 : decide (x5_1 ≤ a1) = true := l2_ c5
     clear c5
     by_cases c6 : 0 ≤ x6_1
     ·rw [if_pos c6] at H
      have c6b0 : decide (0 ≤ x6_1) = true := l2_ c6
      clear c6
      replace H := Option.bind_eq_some_iff.mp H
      obtain ⟨t175, A70, H⟩ := H
      replace H : (virgationref02_Nodes.l0 k1 a1 (wrap64 (x5_1 + t175)) (wrap64 (x6_1 + 1)) a0_0 a0_1 l0_2) = some r := H
      have A7 := mk0 A70
      clear A70
      have H' := mk0 H
      clear H
      have hcz8_0 : wr.cell? ⟨gb173, 0, none⟩ = some (.int .i64 a0_0) := (aC_ BK173.out 0).trans rfl
      have hcz8_1 : wr.cell? ⟨gb173, 1, none⟩ = some (.int .i64 a0_1) := (aC_ BK173.out 1).trans rfl
      have hcz8_2 : wr.cell? ⟨gb173, 2, none⟩ = some (.slice A0_2 l0_2.length c0_2) := (aC_ BK173.out 2).trans rfl
      have hfz8_0 := aJ_ BK173.out 0
      have hfz8_1 := aJ_ BK173.out 1
      have hfz8_2 := aJ_ BK173.out 2
      have p174 : 0 ≤ (x6_1 : Int) := l0_ (by first | (with_reducible assumption) | assumption)
      have q174 : x6_1 < (l0_2.length : Int) := l0_ (by first | (with_reducible assumption) | assumption)
      obtain ⟨ad174, A174_2, c174_2, e174, hx174_0, hx174_1, hx174_2, hl174_2, hi174_2⟩ := at_T50 HR0_2.out x6_1 p174 q174
      cases e174
      replace hx174_0 := (HB.out.cell (l1_ w _ hx174_0)).trans hx174_0
      replace hx174_1 := (HB.out.cell (l1_ w _ hx174_1)).trans hx174_1
      replace hx174_2 := (HB.out.cell (l1_ w _ hx174_2)).trans hx174_2
      have HR174_2 := mk0 hi174_2
      have HC174_2 := mk0 hl174_2
      clear hi174_2 hl174_2
      replace p174 := eq_true p174
      replace q174 := eq_true q174
      go_wp2_with (first | ((with_reducible refine gate_callee (f := 65) rfl ?_); refine goesL_ (some 28) rfl rfl Tryz.func65 (by kernel_rfl) rfl #[.agg #[.int .i64 ((rd_T50 l0_2 x6_1).f0), .int .i64 ((rd_T50 l0_2 x6_1).f1), .slice A174_2 ((rd_T50 l0_2 x6_1).f2).length c174_2], .int .i64 (wrap64 (a1 - x5_1))] rfl (by (try simp only [List.map_toArray, List.map_cons, List.map_nil]); first | done | rfl | (simp only [l9_, List.length_take]; rfl)) ?_; (with_reducible refine (ih k1 (by have := HK1.out; omega) ((rd_T50 l0_2 x6_1).f0) ((rd_T50 l0_2 x6_1).f1) _ _ ((rd_T50 l0_2 x6_1).f2) (wrap64 (a1 - x5_1)) t175 _ ?side1 ?side2 A7.out).mono ?_); (case side1 => repeat (first | exact (Kd.C_below HR174_2.out HB.out) | (with_reducible refine Kd.C_alloc ?_ _) | (with_reducible refine Kd.C_drewN ?_ _) | (with_reducible refine Kd.C_drew ?_))); (case side2 => exact HC174_2.out); rintro e w9 ⟨rfl, hb⟩; refine ⟨_, rfl, ?_⟩; have n0_ := mk0 (aK_ (g := gb173) (o := .cells #[.int .i64 a0_0, .int .i64 a0_1, .slice (some ad174) l0_2.length c0_2] 50 (0, 0)) (by (with_reducible repeat (first | refine aF_ ?_ _ | refine aH_ ?_ | refine aD_ ?_ _)); exact BK173.out) hb); have n1_ := mk0 (aN_ (by repeat (first | (with_reducible first | exact HB.out | apply aA_ | apply aB_ | apply aE_ | refine aG_ ?_ GE173.out) | exact HB.out)) hb); clear BK173; clear HB; have BK173 := n0_; have HB := n1_; clear n0_ n1_; (try clear hb); (try clear hb2); (try clear hk); (try clear hi)))
      go_roundg k1
      case measure => have := HK1.out; omega
      case rel => exact ⟨(wrap64 (x5_1 + t175)), (wrap64 (x6_1 + 1)), (by first | rfl | (simp; done) | (simp [*]; done)), (by first | rfl | (simp; done) | (simp [*]; done)), H', ⟨by have := HK1.out; omega⟩, ⟨by (with_reducible repeat (first | refine aF_ ?_ _ | refine aH_ ?_ | refine aD_ ?_ _)); exact BK173.out⟩, ⟨by repeat (first | (with_reducible first | exact HB.out | apply aA_ | apply aB_ | apply aE_ | refine aG_ ?_ GE173.out) | exact HB.out)⟩⟩
     ·rw [if_neg c6] at H
      exact absurd H (by simp)
    ·rw [if_neg c5] at H
     have c5b0 : decide (x5_1 ≤ a1) = false := l3_ c5
     clear c5
     obtain rfl := l13_ H
     have hcz10_0 : wr.cell? ⟨gb173, 0, none⟩ = some (.int .i64 a0_0) := (aC_ BK173.out 0).trans rfl
     have hcz10_1 : wr.cell? ⟨gb173, 1, none⟩ = some (.int .i64 a0_1) := (aC_ BK173.out 1).trans rfl
     have hcz10_2 : wr.cell? ⟨gb173, 2, none⟩ = some (.slice A0_2 l0_2.length c0_2) := (aC_ BK173.out 2).trans rfl
     have hfz10_0 := aJ_ BK173.out 0
     have hfz10_1 := aJ_ BK173.out 1
     have hfz10_2 := aJ_ BK173.out 2
     go_wp2
     go_ret
     exact ⟨by first | rfl | (simp [aS_, aR_] <;> rfl) | (simp [*, aS_, aR_] <;> rfl), by repeat (first | (with_reducible first | exact HB.out | apply aA_ | apply aB_ | apply aE_ | refine aG_ ?_ GE173.out) | exact HB.out)⟩
   ·rw [if_neg c4] at H
    have c4b0 : decide (x6_1 < (l0_2.length : Int)) = false := l3_ c4
    clear c4
    obtain rfl := l13_ H
    have hcz11_0 : wr.cell? ⟨gb173, 0, none⟩ = some (.int .i64 a0_0) := (aC_ BK173.out 0).trans rfl
    have hcz11_1 : wr.cell? ⟨gb173, 1, none⟩ = some (.int .i64 a0_1) := (aC_ BK173.out 1).trans rfl
    have hcz11_2 : wr.cell? ⟨gb173, 2, none⟩ = some (.slice A0_2 l0_2.length c0_2) := (aC_ BK173.out 2).trans rfl
    have hfz11_0 := aJ_ BK173.out 0
    have hfz11_1 := aJ_ BK173.out 1
    have hfz11_2 := aJ_ BK173.out 2
    go_wp2
    go_ret
    exact ⟨by first | rfl | (simp [aS_, aR_] <;> rfl) | (simp [*, aS_, aR_] <;> rfl), by repeat (first | (with_reducible first | exact HB.out | apply aA_ | apply aB_ | apply aE_ | refine aG_ ?_ GE173.out) | exact HB.out)⟩
mutual
def virgationref02_Depth.l0 : Nat → Int → List (S50) → Int → Int → Option (Int)
 | 0, _, _, _, _ => none
 | k + 1, x3, x7, x8, x9 => if x9 < x8 then (if 0 ≤ x9 then (if x9 < (x7.length : Int) then ((virgationref02_Depth.f k ((rd_T50 x7 x9).f0) ((rd_T50 x7 x9).f1) ((rd_T50 x7 x9).f2)).bind fun t179 => (virgationref02_Depth.l0 k (mx x3 t179) x7 x8 (wrap64 (x9 + 1)))) else (none)) else (none)) else (some (wrap64 (x3 + 1)))
def virgationref02_Depth.f : Nat → Int → Int → List (S50) → Option (Int)
 | 0, _, _, _ => none
 | k + 1, a0_0, a0_1, l0_2 => virgationref02_Depth.l0 k 0 l0_2 (l0_2.length : Int) 0
end
set_option maxHeartbeats 8000000 in
set_option maxRecDepth 100000 in
theorem virgationref02_Depth.calls (k : Nat) : ∀ (a0_0 : Int) (a0_1 : Int) (A0_2 : Option Addr) (c0_2 : Nat) (l0_2 : List (S50)) (r : Int) (w : World) (hr0_2 : Kd.C k50 w A0_2 l0_2.length l0_2) (hc0_2 : l0_2.length ≤ c0_2) (h : virgationref02_Depth.f k a0_0 a0_1 l0_2 = some r),
  Calls Tryz.prog 66 #[.agg #[.int .i64 a0_0, .int .i64 a0_1, .slice A0_2 l0_2.length c0_2]] w fun e w' => e = .returned (.int .i64 r) ∧ Below w.heap.size w w' := by
 induction k using Nat.strongRecOn with
 | _ k ih =>
 intro a0_0 a0_1 A0_2 c0_2 l0_2 r w hr0_2 hc0_2 h
 cases k with
 | zero => exact absurd h (by simp [virgationref02_Depth.f])
 | succ k =>
 simp only [virgationref02_Depth.f] at h
 have hu50 := Tryz.underlying50
 have HR0_2 := mk0 hr0_2
 have HC0_2 := mk0 hc0_2
 clear hr0_2 hc0_2
 have HB := mk0 (Below.refl w.heap.size w)
 have H : (virgationref02_Depth.l0 k 0 l0_2 (l0_2.length : Int) 0) = some r := h
 clear h
 have H' := mk0 H
 clear H
 go_enter Tryz.func66, Tryz.ntmps66
 go_wp2_with (first | ((with_reducible refine gate_dst (N := 1) rfl ?_); refine box_event ?hg (N := 1) ?hd (cs := #[.int .i64 a0_0, .int .i64 a0_1, .slice A0_2 l0_2.length c0_2]) (t := 50) ?hr ?_; (case hd => rfl); (case hg => rfl); (case hr => first | (go_simp; done) | (go_simp; rfl)); intro gb176 hg w2 hbox hb; have n0_ := mk0 (aN_ (by repeat (first | (with_reducible first | exact HB.out | apply aA_ | apply aB_ | apply aE_) | exact HB.out)) hb); have n1_ := mk0 (hbox); have n2_ := mk0 ((by rw [hg]; exact (aL_ (by repeat (first | (with_reducible first | exact HB.out | apply aA_ | apply aB_ | apply aE_) | exact HB.out))) : w.heap.size ≤ gb176)); have n3_ := mk0 ((by rw [hg]; exact (aL_ (by repeat (first | (with_reducible first | exact HB.out | apply aA_ | apply aB_ | apply aE_) | exact HB.out))) : w.heap.size ≤ gb176)); clear HB; have HB := n0_; have BK176 := n1_; have GW176 := n2_; have GE176 := n3_; clear n0_ n1_ n2_ n3_; clear hb hbox hg; have hcz3_0 : w2.cell? ⟨gb176, 0, none⟩ = some (.int .i64 a0_0) := (aC_ BK176.out 0).trans rfl; have hcz3_1 : w2.cell? ⟨gb176, 1, none⟩ = some (.int .i64 a0_1) := (aC_ BK176.out 1).trans rfl; have hcz3_2 : w2.cell? ⟨gb176, 2, none⟩ = some (.slice A0_2 l0_2.length c0_2) := (aC_ BK176.out 2).trans rfl; have hfz3_0 := aJ_ BK176.out 0; have hfz3_1 := aJ_ BK176.out 1; have hfz3_2 := aJ_ BK176.out 2))
 go_loopg [3, 9] k (fun kq v3 v9 w' => ∃ (x3_1 : Int) (x9_1 : Int), v3 = .int .i64 x3_1 ∧ v9 = .int .i64 x9_1 ∧ Aside0 (virgationref02_Depth.l0 kq x3_1 l0_2 (l0_2.length : Int) x9_1 = some r) ∧ Aside0 (kq ≤ k) ∧ Aside0 (w'.heap[gb176]? = some (.cells #[.int .i64 a0_0, .int .i64 a0_1, (.slice A0_2 l0_2.length c0_2)] 50 (0, 0))) ∧ Aside0 (Below w.heap.size w w'))
 case atStart => exact ⟨(0), (0), (by first | rfl | (simp; done) | (simp [*]; done)), (by first | rfl | (simp; done) | (simp [*]; done)), H', ⟨Nat.le_refl _⟩, ⟨by (with_reducible repeat (first | refine aF_ ?_ _ | refine aH_ ?_ | refine aD_ ?_ _)); exact BK176.out⟩, ⟨by repeat (first | (with_reducible first | exact HB.out | apply aA_ | apply aB_ | apply aE_ | refine aG_ ?_ GE176.out) | exact HB.out)⟩⟩
 case round =>
  clear H'
  try clear p2
  try clear hcz3_0
  try clear hcz3_1
  try clear hcz3_2
  try clear hfz3_0
  try clear hfz3_1
  try clear hfz3_2
  obtain ⟨x3_1, x9_1, rfl, rfl, HA, HK1, BK176, HB⟩ := hrel
  cases gk with
  | zero => exact absurd HA.out (by simp [virgationref02_Depth.l0])
  | succ k1 =>
   have H := HA.out
   clear HA
   simp only [virgationref02_Depth.l0] at H
   by_cases c4 : x9_1 < (l0_2.length : Int)
   ·rw [if_pos c4] at H
    have c4b0 : decide (x9_1 < (l0_2.length : Int)) = true := l2_ c4
    clear c4
    by_cases c5 : 0 ≤ x9_1
    ·rw [if_pos c5] at H
     have c5b0 : decide (0 ≤ x9_1) = true := l2_ c5
     clear c5
     by_cases c6 : x9_1 < (l0_2.length : Int)
     ·rw [if_pos c6] at H
      have c6b0 : decide (x9_1 < (l0_2.length : Int)) = true := l2_ c6
      clear c6
      replace H := Option.bind_eq_some_iff.mp H
      obtain ⟨t179, A70, H⟩ := H
      replace H : (virgationref02_Depth.l0 k1 (mx x3_1 t179) l0_2 (l0_2.length : Int) (wrap64 (x9_1 + 1))) = some r := H
      have A7 := mk0 A70
      clear A70
      obtain ⟨ji8, hji8⟩ : ∃ j_ : Int, (mx x3_1 t179) = j_ := ⟨_, rfl⟩
      replace H : (virgationref02_Depth.l0 k1 ji8 l0_2 (l0_2.length : Int) (wrap64 (x9_1 + 1))) = some r := by first | (rw [hji8] at H; exact H) | (simp only [hji8] at H ⊢; exact H)
      (try rw [hji8] at A7)
      have hji8_ : (if x3_1 < t179 then t179 else x3_1) = ji8 := hji8
      have H' := mk0 H
      clear H
      have p177 : 0 ≤ (x9_1 : Int) := l0_ (by first | (with_reducible assumption) | assumption)
      have q177 : x9_1 < (l0_2.length : Int) := l0_ (by first | (with_reducible assumption) | assumption)
      obtain ⟨ad177, A177_2, c177_2, e177, hx177_0, hx177_1, hx177_2, hl177_2, hi177_2⟩ := at_T50 HR0_2.out x9_1 p177 q177
      cases e177
      replace hx177_0 := (HB.out.cell (l1_ w _ hx177_0)).trans hx177_0
      replace hx177_1 := (HB.out.cell (l1_ w _ hx177_1)).trans hx177_1
      replace hx177_2 := (HB.out.cell (l1_ w _ hx177_2)).trans hx177_2
      have HR177_2 := mk0 hi177_2
      have HC177_2 := mk0 hl177_2
      clear hi177_2 hl177_2
      replace p177 := eq_true p177
      replace q177 := eq_true q177
      go_wp2_with (first | ((with_reducible refine gate_dst (N := 5) rfl ?_); refine box_event ?hg (N := 5) ?hd (cs := #[.int .i64 0, .int .i64 0, .slice none 0 0]) (t := 50) ?hr ?_; (case hd => rfl); (case hg => rfl); (case hr => first | (go_simp; done) | (go_simp; rfl)); intro gb178 hg w9 hbox hb; have n0_ := mk0 (aK_ (g := gb176) (o := .cells #[.int .i64 a0_0, .int .i64 a0_1, .slice (some ad177) l0_2.length c0_2] 50 (0, 0)) (by (with_reducible repeat (first | refine aF_ ?_ _ | refine aH_ ?_ | refine aD_ ?_ _)); exact BK176.out) hb); have n1_ := mk0 (aN_ (by repeat (first | (with_reducible first | exact HB.out | apply aA_ | apply aB_ | apply aE_ | refine aG_ ?_ GE176.out) | exact HB.out)) hb); have n2_ := mk0 (hbox); have n3_ := mk0 ((by rw [hg]; exact (aL_ (by repeat (first | (with_reducible first | exact HB.out | apply aA_ | apply aB_ | apply aE_ | refine aG_ ?_ GE176.out) | exact HB.out))) : w.heap.size ≤ gb178)); have n4_ := mk0 ((by rw [hg]; exact (aL_ (by repeat (first | (with_reducible first | exact HB.out | apply aA_ | apply aB_ | apply aE_ | refine aG_ ?_ GE176.out) | exact HB.out))) : w.heap.size ≤ gb178)); have n5_ := mk0 ((by rw [hg]; exact Nat.ne_of_lt (blk_lt (g := gb176) (o := .cells #[.int .i64 a0_0, .int .i64 a0_1, .slice (some ad177) l0_2.length c0_2] 50 (0, 0)) (by (with_reducible repeat (first | refine aF_ ?_ _ | refine aH_ ?_ | refine aD_ ?_ _)); exact BK176.out)) : gb176 ≠ gb178)); have n6_ := mk0 ((by rw [hg]; exact Nat.ne_of_gt (blk_lt (g := gb176) (o := .cells #[.int .i64 a0_0, .int .i64 a0_1, .slice (some ad177) l0_2.length c0_2] 50 (0, 0)) (by (with_reducible repeat (first | refine aF_ ?_ _ | refine aH_ ?_ | refine aD_ ?_ _)); exact BK176.out)) : gb178 ≠ gb176)); clear BK176; clear HB; have BK176 := n0_; have HB := n1_; have BK178 := n2_; have GW178 := n3_; have GE178 := n4_; have NB176_178 := n5_; have NB178_176 := n6_; clear n0_ n1_ n2_ n3_ n4_ n5_ n6_; clear hb hbox hg; have hnb10 := NB178_176.out; have hnc10 := NB176_178.out; have hcz11_0 : w9.cell? ⟨gb178, 0, none⟩ = some (.int .i64 0) := (aC_ BK178.out 0).trans rfl; have hcz11_1 : w9.cell? ⟨gb178, 1, none⟩ = some (.int .i64 0) := (aC_ BK178.out 1).trans rfl; have hcz11_2 : w9.cell? ⟨gb178, 2, none⟩ = some (.slice none 0 0) := (aC_ BK178.out 2).trans rfl; have hfz11_0 := aJ_ BK178.out 0; have hfz11_1 := aJ_ BK178.out 1; have hfz11_2 := aJ_ BK178.out 2) | ((with_reducible refine gate_callee (f := 66) rfl ?_); refine goesL_ (some 15) rfl rfl Tryz.func66 (by kernel_rfl) rfl #[.agg #[.int .i64 ((rd_T50 l0_2 x9_1).f0), .int .i64 ((rd_T50 l0_2 x9_1).f1), .slice A177_2 ((rd_T50 l0_2 x9_1).f2).length c177_2]] rfl (by (try simp only [List.map_toArray, List.map_cons, List.map_nil]); first | done | rfl | (simp only [l9_, List.length_take]; rfl)) ?_; (with_reducible refine (ih k1 (by have := HK1.out; omega) ((rd_T50 l0_2 x9_1).f0) ((rd_T50 l0_2 x9_1).f1) _ _ ((rd_T50 l0_2 x9_1).f2) t179 _ ?side1 ?side2 A7.out).mono ?_); (case side1 => exact Kd.C_below HR177_2.out (by repeat (first | (with_reducible first | exact HB.out | apply aA_ | apply aB_ | apply aE_ | refine aG_ ?_ GE176.out | refine aG_ ?_ GE178.out) | exact HB.out))); (case side2 => exact HC177_2.out); rintro e w12 ⟨rfl, hb⟩; refine ⟨_, rfl, ?_⟩; have n0_ := mk0 (aK_ (g := gb176) (o := .cells #[.int .i64 a0_0, .int .i64 a0_1, .slice (some ad177) l0_2.length c0_2] 50 (0, 0)) (by (with_reducible repeat (first | refine aF_ ?_ _ | refine aH_ ?_ | refine aD_ ?_ _)); refine aT_ ?_ NB176_178.out _; (with_reducible repeat (first | refine aF_ ?_ _ | refine aH_ ?_ | refine aD_ ?_ _)); refine aT_ ?_ NB176_178.out _; (with_reducible repeat (first | refine aF_ ?_ _ | refine aH_ ?_ | refine aD_ ?_ _)); refine aT_ ?_ NB176_178.out _; (with_reducible repeat (first | refine aF_ ?_ _ | refine aH_ ?_ | refine aD_ ?_ _)); exact BK176.out) hb); have n1_ := mk0 (aK_ (g := gb178) (o := .cells #[.int .i64 ((rd_T50 l0_2 x9_1).f0), .int .i64 ((rd_T50 l0_2 x9_1).f1), .slice A177_2 ((rd_T50 l0_2 x9_1).f2).length c177_2] 50 (0, 0)) (by (with_reducible repeat (first | refine aF_ ?_ _ | refine aH_ ?_ | refine aD_ ?_ _)); refine blk_put (cs := #[.int .i64 ((rd_T50 l0_2 x9_1).f0), .int .i64 ((rd_T50 l0_2 x9_1).f1), .slice none 0 0]) ?_ 2 _ rfl; (with_reducible repeat (first | refine aF_ ?_ _ | refine aH_ ?_ | refine aD_ ?_ _)); refine blk_put (cs := #[.int .i64 ((rd_T50 l0_2 x9_1).f0), .int .i64 0, .slice none 0 0]) ?_ 1 _ rfl; (with_reducible repeat (first | refine aF_ ?_ _ | refine aH_ ?_ | refine aD_ ?_ _)); refine blk_put (cs := #[.int .i64 0, .int .i64 0, .slice none 0 0]) ?_ 0 _ rfl; (with_reducible repeat (first | refine aF_ ?_ _ | refine aH_ ?_ | refine aD_ ?_ _)); exact BK178.out) hb); have n2_ := mk0 (aN_ (by repeat (first | (with_reducible first | exact HB.out | apply aA_ | apply aB_ | apply aE_ | refine aG_ ?_ GE176.out | refine aG_ ?_ GE178.out) | exact HB.out)) hb); clear BK176; clear BK178; clear HB; have BK176 := n0_; have BK178 := n1_; have HB := n2_; clear n0_ n1_ n2_; (try clear hb); (try clear hb2); (try clear hk); (try clear hi)))
      go_roundg k1
      case measure => have := HK1.out; omega
      case rel => exact ⟨(ji8), (wrap64 (x9_1 + 1)), (by first | rfl | (simp; done) | (simp only [← hji8] <;> (first | rfl | simp)) | (simp [*]; done)), (by first | rfl | (simp; done) | (simp [*]; done)), H', ⟨by have := HK1.out; omega⟩, ⟨by (with_reducible repeat (first | refine aF_ ?_ _ | refine aH_ ?_ | refine aD_ ?_ _)); exact BK176.out⟩, ⟨by repeat (first | (with_reducible first | exact HB.out | apply aA_ | apply aB_ | apply aE_ | refine aG_ ?_ GE176.out | refine aG_ ?_ GE178.out) | exact HB.out)⟩⟩
     ·rw [if_neg c6] at H
      exact absurd H (by simp)
    ·rw [if_neg c5] at H
     exact absurd H (by simp)
   ·rw [if_neg c4] at H
    have c4b0 : decide (x9_1 < (l0_2.length : Int)) = false := l3_ c4
    clear c4
    obtain rfl := l13_ H
    go_wp2
    go_ret
    exact ⟨by first | rfl | (simp [aS_, aR_] <;> rfl) | (simp [*, aS_, aR_] <;> rfl), by repeat (first | (with_reducible first | exact HB.out | apply aA_ | apply aB_ | apply aE_ | refine aG_ ?_ GE176.out) | exact HB.out)⟩
mutual
def virgationref02_Equal.j0 : Nat → Bool → Int → Int → List (S50) → Int → Int → List (S50) → Option (Bool)
 | 0, _, _, _, _, _, _, _ => none
 | k + 1, x26, x181000, x181001, x181002, x182000, x182001, x182002 => if x26 = true then (some false) else (virgationref02_Equal.l0 k (x181002.length : Int) 0 x181000 x181001 x181002 x182000 x182001 x182002)
def virgationref02_Equal.l0 : Nat → Int → Int → Int → Int → List (S50) → Int → Int → List (S50) → Option (Bool)
 | 0, _, _, _, _, _, _, _, _ => none
 | k + 1, x29, x30, x181000, x181001, x181002, x182000, x182001, x182002 => if x30 < x29 then (if 0 ≤ x30 then (if x30 < (x181002.length : Int) then (if x30 < (x182002.length : Int) then ((virgationref02_Equal.f k ((rd_T50 x181002 x30).f0) ((rd_T50 x181002 x30).f1) ((rd_T50 x181002 x30).f2) ((rd_T50 x182002 x30).f0) ((rd_T50 x182002 x30).f1) ((rd_T50 x182002 x30).f2)).bind fun t184 => (if t184 = true then (virgationref02_Equal.l0 k x29 (wrap64 (x30 + 1)) x181000 x181001 x181002 x182000 x182001 x182002) else (some false))) else (none)) else (none)) else (none)) else (some true)
def virgationref02_Equal.f : Nat → Int → Int → List (S50) → Int → Int → List (S50) → Option (Bool)
 | 0, _, _, _, _, _, _ => none
 | k + 1, a0_0, a0_1, l0_2, a1_0, a1_1, l1_2 => if a0_0 = a1_0 then (if a0_1 = a1_1 then (virgationref02_Equal.j0 k ((l0_2.length : Int) != (l1_2.length : Int)) a0_0 a0_1 l0_2 a1_0 a1_1 l1_2) else (virgationref02_Equal.j0 k true a0_0 a0_1 l0_2 a1_0 a1_1 l1_2)) else (virgationref02_Equal.j0 k true a0_0 a0_1 l0_2 a1_0 a1_1 l1_2)
end
def virgationref02_Equal.T6 : Bool × List (List Nat × List Nat) := (true, [([], []), ([0], [0]), ([], []), ([1, 2], [1, 2]), ([3], [3]), ([], []), ([5], [5]), ([], []), ([6, 7], [6, 7]), ([8], [8]), ([4, 9], [4, 9]), ([10], [10])])
def virgationref02_Equal.B6 : List Nat := [0, 1, 0, 7, 15, 0, 32, 0, 224, 480, 1023, 2047]
theorem virgationref02_Equal.tab6 : rtab .any (opsOf Tryz.f87 6) = virgationref02_Equal.T6 := by kernel_rfl
theorem virgationref02_Equal.bits6 : waitsOk virgationref02_Equal.T6.2 virgationref02_Equal.B6 = true := by kernel_rfl
set_option maxHeartbeats 8000000 in
set_option maxRecDepth 100000 in
theorem virgationref02_Equal.calls (k : Nat) : ∀ (a0_0 : Int) (a0_1 : Int) (A0_2 : Option Addr) (c0_2 : Nat) (l0_2 : List (S50)) (a1_0 : Int) (a1_1 : Int) (A1_2 : Option Addr) (c1_2 : Nat) (l1_2 : List (S50)) (r : Bool) (w : World) (hr0_2 : Kd.C k50 w A0_2 l0_2.length l0_2) (hc0_2 : l0_2.length ≤ c0_2) (hr1_2 : Kd.C k50 w A1_2 l1_2.length l1_2) (hc1_2 : l1_2.length ≤ c1_2) (h : virgationref02_Equal.f k a0_0 a0_1 l0_2 a1_0 a1_1 l1_2 = some r),
  Calls Tryz.prog 87 #[.agg #[.int .i64 a0_0, .int .i64 a0_1, .slice A0_2 l0_2.length c0_2], .agg #[.int .i64 a1_0, .int .i64 a1_1, .slice A1_2 l1_2.length c1_2]] w fun e w' => e = .returned (.bool r) ∧ Below w.heap.size w w' := by
 induction k using Nat.strongRecOn with
 | _ k ih =>
 intro a0_0 a0_1 A0_2 c0_2 l0_2 a1_0 a1_1 A1_2 c1_2 l1_2 r w hr0_2 hc0_2 hr1_2 hc1_2 h
 cases k with
 | zero => exact absurd h (by simp [virgationref02_Equal.f])
 | succ k =>
 simp only [virgationref02_Equal.f] at h
 have hu50 := Tryz.underlying50
 have HR0_2 := mk0 hr0_2
 have HC0_2 := mk0 hc0_2
 clear hr0_2 hc0_2
 have HR1_2 := mk0 hr1_2
 have HC1_2 := mk0 hc1_2
 clear hr1_2 hc1_2
 have HB := mk0 (Below.refl w.heap.size w)
 have H : (if a0_0 = a1_0 then (if a0_1 = a1_1 then (virgationref02_Equal.j0 k ((l0_2.length : Int) != (l1_2.length : Int)) a0_0 a0_1 l0_2 a1_0 a1_1 l1_2) else (virgationref02_Equal.j0 k true a0_0 a0_1 l0_2 a1_0 a1_1 l1_2)) else (virgationref02_Equal.j0 k true a0_0 a0_1 l0_2 a1_0 a1_1 l1_2)) = some r := h
 clear h
 have HC3 := mk0 H
 clear H
 go_enter Tryz.func87, Tryz.ntmps87
 go_upto_region 1 with (first | ((with_reducible refine gate_dst (N := 2) rfl ?_); (try (refine gate_guard (by rfl) ?_; dsimp only)); refine box_event ?hg (N := 2) ?hd (cs := #[.int .i64 a0_0, .int .i64 a0_1, .slice A0_2 l0_2.length c0_2]) (t := 50) ?hr ?_; (case hd => rfl); (case hg => rfl); (case hr => first | (go_simp; done) | (go_simp; rfl)); intro gb180 hg w4 hbox hb; have n0_ := mk0 (aN_ (by repeat (first | (with_reducible first | exact HB.out | apply aA_ | apply aB_ | apply aE_) | exact HB.out)) hb); have n1_ := mk0 (hbox); have n2_ := mk0 ((by rw [hg]; exact (aL_ (by repeat (first | (with_reducible first | exact HB.out | apply aA_ | apply aB_ | apply aE_) | exact HB.out))) : w.heap.size ≤ gb180)); have n3_ := mk0 ((by rw [hg]; exact (aL_ (by repeat (first | (with_reducible first | exact HB.out | apply aA_ | apply aB_ | apply aE_) | exact HB.out))) : w.heap.size ≤ gb180)); clear HB; have HB := n0_; have BK180 := n1_; have GW180 := n2_; have GE180 := n3_; clear n0_ n1_ n2_ n3_; clear hb hbox hg) | ((with_reducible refine gate_dst (N := 3) rfl ?_); (try (refine gate_guard (by rfl) ?_; dsimp only)); refine box_event ?hg (N := 3) ?hd (cs := #[.int .i64 a1_0, .int .i64 a1_1, .slice A1_2 l1_2.length c1_2]) (t := 50) ?hr ?_; (case hd => rfl); (case hg => rfl); (case hr => first | (go_simp; done) | (go_simp; rfl)); intro gb181 hg w5 hbox hb; have n0_ := mk0 (aK_ (g := gb180) (o := .cells #[.int .i64 a0_0, .int .i64 a0_1, .slice A0_2 l0_2.length c0_2] 50 (0, 0)) (by (with_reducible repeat (first | refine aF_ ?_ _ | refine aH_ ?_ | refine aD_ ?_ _)); exact BK180.out) hb); have n1_ := mk0 (aN_ (by repeat (first | (with_reducible first | exact HB.out | apply aA_ | apply aB_ | apply aE_ | refine aG_ ?_ GE180.out) | exact HB.out)) hb); have n2_ := mk0 (hbox); have n3_ := mk0 ((by rw [hg]; exact (aL_ (by repeat (first | (with_reducible first | exact HB.out | apply aA_ | apply aB_ | apply aE_ | refine aG_ ?_ GE180.out) | exact HB.out))) : w.heap.size ≤ gb181)); have n4_ := mk0 ((by rw [hg]; exact (aL_ (by repeat (first | (with_reducible first | exact HB.out | apply aA_ | apply aB_ | apply aE_ | refine aG_ ?_ GE180.out) | exact HB.out))) : w.heap.size ≤ gb181)); have n5_ := mk0 ((by rw [hg]; exact Nat.ne_of_lt (blk_lt (g := gb180) (o := .cells #[.int .i64 a0_0, .int .i64 a0_1, .slice A0_2 l0_2.length c0_2] 50 (0, 0)) (by (with_reducible repeat (first | refine aF_ ?_ _ | refine aH_ ?_ | refine aD_ ?_ _)); exact BK180.out)) : gb180 ≠ gb181)); have n6_ := mk0 ((by rw [hg]; exact Nat.ne_of_gt (blk_lt (g := gb180) (o := .cells #[.int .i64 a0_0, .int .i64 a0_1, .slice A0_2 l0_2.length c0_2] 50 (0, 0)) (by (with_reducible repeat (first | refine aF_ ?_ _ | refine aH_ ?_ | refine aD_ ?_ _)); exact BK180.out)) : gb181 ≠ gb180)); clear BK180; clear HB; have BK180 := n0_; have HB := n1_; have BK181 := n2_; have GW181 := n3_; have GE181 := n4_; have NB180_181 := n5_; have NB181_180 := n6_; clear n0_ n1_ n2_ n3_ n4_ n5_ n6_; clear hb hbox hg))
 (try simp only [Act.put, l4_, l5_, l6_])
 go_cut [26] (fun v26 wc => ∃ (kq : Nat) (x26_2 : Bool), v26 = .bool x26_2 ∧ Aside0 (virgationref02_Equal.j0 kq x26_2 a0_0 a0_1 l0_2 a1_0 a1_1 l1_2 = some r) ∧ Aside0 (kq ≤ k) ∧ Aside0 (wc.heap[gb180]? = some (.cells #[.int .i64 a0_0, .int .i64 a0_1, (.slice A0_2 l0_2.length c0_2)] 50 (0, 0))) ∧ Aside0 (wc.heap[gb181]? = some (.cells #[.int .i64 a1_0, .int .i64 a1_1, (.slice A1_2 l1_2.length c1_2)] 50 (0, 0))) ∧ Aside0 (Below w.heap.size w wc))
 case first =>
  have H := HC3.out
  clear HC3
  by_cases c6 : a0_0 = a1_0
  ·rw [if_pos c6] at H
   have c6b0 : (a0_0 == a1_0) = true := beq_iff_eq.mpr c6
   have c6b1 : (a0_0 != a1_0) = false := bne_eq_false_iff_eq.mpr c6
   clear c6
   (first | rw [c6b0] | (simp only [i64_w, i32_w]; rw [c6b0]) | skip)
   by_cases c7 : a0_1 = a1_1
   ·rw [if_pos c7] at H
    have c7b0 : (a0_1 == a1_1) = true := beq_iff_eq.mpr c7
    have c7b1 : (a0_1 != a1_1) = false := bne_eq_false_iff_eq.mpr c7
    clear c7
    have H' := mk0 H
    clear H
    have hnb8 := NB180_181.out
    have hnc8 := NB181_180.out
    have hcz9_0 : w5.cell? ⟨gb180, 0, none⟩ = some (.int .i64 a0_0) := (aC_ BK180.out 0).trans rfl
    have hcz9_1 : w5.cell? ⟨gb180, 1, none⟩ = some (.int .i64 a0_1) := (aC_ BK180.out 1).trans rfl
    have hcz9_2 : w5.cell? ⟨gb180, 2, none⟩ = some (.slice A0_2 l0_2.length c0_2) := (aC_ BK180.out 2).trans rfl
    have hfz9_0 := aJ_ BK180.out 0
    have hfz9_1 := aJ_ BK180.out 1
    have hfz9_2 := aJ_ BK180.out 2
    have hcz10_0 : w5.cell? ⟨gb181, 0, none⟩ = some (.int .i64 a1_0) := (aC_ BK181.out 0).trans rfl
    have hcz10_1 : w5.cell? ⟨gb181, 1, none⟩ = some (.int .i64 a1_1) := (aC_ BK181.out 1).trans rfl
    have hcz10_2 : w5.cell? ⟨gb181, 2, none⟩ = some (.slice A1_2 l1_2.length c1_2) := (aC_ BK181.out 2).trans rfl
    have hfz10_0 := aJ_ BK181.out 0
    have hfz10_1 := aJ_ BK181.out 1
    have hfz10_2 := aJ_ BK181.out 2
    go_wp2
    go_meet
    case rel => exact ⟨_, (((l0_2.length : Int) != (l1_2.length : Int))), (by first | rfl | (simp; done) | (simp [*]; done)), H', ⟨by first | omega | exact Nat.le_refl _⟩, ⟨by (with_reducible repeat (first | refine aF_ ?_ _ | refine aH_ ?_ | refine aD_ ?_ _)); exact BK180.out⟩, ⟨by (with_reducible repeat (first | refine aF_ ?_ _ | refine aH_ ?_ | refine aD_ ?_ _)); exact BK181.out⟩, ⟨by repeat (first | (with_reducible first | exact HB.out | apply aA_ | apply aB_ | apply aE_ | refine aG_ ?_ GE180.out | refine aG_ ?_ GE181.out) | exact HB.out)⟩⟩
   ·rw [if_neg c7] at H
    have c7b0 : (a0_1 == a1_1) = false := beq_eq_false_iff_ne.mpr c7
    have c7b1 : (a0_1 != a1_1) = true := bne_iff_ne.mpr c7
    have H' := mk0 H
    clear H
    have hnb11 := NB180_181.out
    have hnc11 := NB181_180.out
    have hcz12_0 : w5.cell? ⟨gb180, 0, none⟩ = some (.int .i64 a0_0) := (aC_ BK180.out 0).trans rfl
    have hcz12_1 : w5.cell? ⟨gb180, 1, none⟩ = some (.int .i64 a0_1) := (aC_ BK180.out 1).trans rfl
    have hcz12_2 : w5.cell? ⟨gb180, 2, none⟩ = some (.slice A0_2 l0_2.length c0_2) := (aC_ BK180.out 2).trans rfl
    have hfz12_0 := aJ_ BK180.out 0
    have hfz12_1 := aJ_ BK180.out 1
    have hfz12_2 := aJ_ BK180.out 2
    have hcz13_0 : w5.cell? ⟨gb181, 0, none⟩ = some (.int .i64 a1_0) := (aC_ BK181.out 0).trans rfl
    have hcz13_1 : w5.cell? ⟨gb181, 1, none⟩ = some (.int .i64 a1_1) := (aC_ BK181.out 1).trans rfl
    have hcz13_2 : w5.cell? ⟨gb181, 2, none⟩ = some (.slice A1_2 l1_2.length c1_2) := (aC_ BK181.out 2).trans rfl
    have hfz13_0 := aJ_ BK181.out 0
    have hfz13_1 := aJ_ BK181.out 1
    have hfz13_2 := aJ_ BK181.out 2
    go_wp2
    go_meet
    case rel => exact ⟨_, (true), (by first | rfl | (simp; done) | (simp [*]; done)), H', ⟨by first | omega | exact Nat.le_refl _⟩, ⟨by (with_reducible repeat (first | refine aF_ ?_ _ | refine aH_ ?_ | refine aD_ ?_ _)); exact BK180.out⟩, ⟨by (with_reducible repeat (first | refine aF_ ?_ _ | refine aH_ ?_ | refine aD_ ?_ _)); exact BK181.out⟩, ⟨by repeat (first | (with_reducible first | exact HB.out | apply aA_ | apply aB_ | apply aE_ | refine aG_ ?_ GE180.out | refine aG_ ?_ GE181.out) | exact HB.out)⟩⟩
  ·rw [if_neg c6] at H
   have c6b0 : (a0_0 == a1_0) = false := beq_eq_false_iff_ne.mpr c6
   have c6b1 : (a0_0 != a1_0) = true := bne_iff_ne.mpr c6
   (first | rw [c6b0] | (simp only [i64_w, i32_w]; rw [c6b0]) | skip)
   have H' := mk0 H
   clear H
   have hnb14 := NB180_181.out
   have hnc14 := NB181_180.out
   have hcz15_0 : w5.cell? ⟨gb180, 0, none⟩ = some (.int .i64 a0_0) := (aC_ BK180.out 0).trans rfl
   have hcz15_1 : w5.cell? ⟨gb180, 1, none⟩ = some (.int .i64 a0_1) := (aC_ BK180.out 1).trans rfl
   have hcz15_2 : w5.cell? ⟨gb180, 2, none⟩ = some (.slice A0_2 l0_2.length c0_2) := (aC_ BK180.out 2).trans rfl
   have hfz15_0 := aJ_ BK180.out 0
   have hfz15_1 := aJ_ BK180.out 1
   have hfz15_2 := aJ_ BK180.out 2
   have hcz16_0 : w5.cell? ⟨gb181, 0, none⟩ = some (.int .i64 a1_0) := (aC_ BK181.out 0).trans rfl
   have hcz16_1 : w5.cell? ⟨gb181, 1, none⟩ = some (.int .i64 a1_1) := (aC_ BK181.out 1).trans rfl
   have hcz16_2 : w5.cell? ⟨gb181, 2, none⟩ = some (.slice A1_2 l1_2.length c1_2) := (aC_ BK181.out 2).trans rfl
   have hfz16_0 := aJ_ BK181.out 0
   have hfz16_1 := aJ_ BK181.out 1
   have hfz16_2 := aJ_ BK181.out 2
   go_wp2
   go_meet
   case rel => exact ⟨_, (true), (by first | rfl | (simp; done) | (simp [*]; done)), H', ⟨by first | omega | exact Nat.le_refl _⟩, ⟨by (with_reducible repeat (first | refine aF_ ?_ _ | refine aH_ ?_ | refine aD_ ?_ _)); exact BK180.out⟩, ⟨by (with_reducible repeat (first | refine aF_ ?_ _ | refine aH_ ?_ | refine aD_ ?_ _)); exact BK181.out⟩, ⟨by repeat (first | (with_reducible first | exact HB.out | apply aA_ | apply aB_ | apply aE_ | refine aG_ ?_ GE180.out | refine aG_ ?_ GE181.out) | exact HB.out)⟩⟩
 case rest =>
  clear HC3
  try clear c1
  try clear p2
  try clear c6
  try clear c6b0
  try clear c6b1
  try clear c7
  try clear c7b0
  try clear c7b1
  try clear c8
  try clear c11
  try clear c14
  try clear hcz10_0
  try clear hcz10_1
  try clear hcz10_2
  try clear hcz12_0
  try clear hcz12_1
  try clear hcz12_2
  try clear hcz13_0
  try clear hcz13_1
  try clear hcz13_2
  try clear hcz15_0
  try clear hcz15_1
  try clear hcz15_2
  try clear hcz16_0
  try clear hcz16_1
  try clear hcz16_2
  try clear hcz9_0
  try clear hcz9_1
  try clear hcz9_2
  try clear hfz10_0
  try clear hfz10_1
  try clear hfz10_2
  try clear hfz12_0
  try clear hfz12_1
  try clear hfz12_2
  try clear hfz13_0
  try clear hfz13_1
  try clear hfz13_2
  try clear hfz15_0
  try clear hfz15_1
  try clear hfz15_2
  try clear hfz16_0
  try clear hfz16_1
  try clear hfz16_2
  try clear hfz9_0
  try clear hfz9_1
  try clear hfz9_2
  obtain ⟨kq, x26_2, rfl, HA, HJ2, BK180, BK181, HB⟩ := hcut
  cases kq with
  | zero => exact absurd HA.out (by simp [virgationref02_Equal.j0])
  | succ kj2 =>
   have H := HA.out
   clear HA
   simp only [virgationref02_Equal.j0] at H
   by_cases c17 : x26_2 = true
   ·subst c17
    have H1 : (some false) = some r := by rw [if_pos rfl] at H; exact H
    clear H
    have H := H1
    clear H1
    obtain rfl := l13_ H
    go_wp2
    go_ret
    exact ⟨by first | rfl | (simp [aS_, aR_] <;> rfl) | (simp [*, aS_, aR_] <;> rfl), by repeat (first | (with_reducible first | exact HB.out | apply aA_ | apply aB_ | apply aE_ | refine aG_ ?_ GE180.out | refine aG_ ?_ GE181.out) | exact HB.out)⟩
   ·replace c17 := Bool.eq_false_iff.mpr c17
    subst c17
    have H1 : (virgationref02_Equal.l0 kj2 (l0_2.length : Int) 0 a0_0 a0_1 l0_2 a1_0 a1_1 l1_2) = some r := by rw [if_neg (show ¬ (false = true) by decide)] at H; exact H
    clear H
    have H := H1
    clear H1
    have H' := mk0 H
    clear H
    have hnb18 := NB180_181.out
    have hnc18 := NB181_180.out
    have hcz19_0 : wc.cell? ⟨gb180, 0, none⟩ = some (.int .i64 a0_0) := (aC_ BK180.out 0).trans rfl
    have hcz19_1 : wc.cell? ⟨gb180, 1, none⟩ = some (.int .i64 a0_1) := (aC_ BK180.out 1).trans rfl
    have hcz19_2 : wc.cell? ⟨gb180, 2, none⟩ = some (.slice A0_2 l0_2.length c0_2) := (aC_ BK180.out 2).trans rfl
    have hfz19_0 := aJ_ BK180.out 0
    have hfz19_1 := aJ_ BK180.out 1
    have hfz19_2 := aJ_ BK180.out 2
    go_wp2
    go_loopg [30] kj2 (fun kq v30 w' => ∃ (x30_2 : Int), v30 = .int .i64 x30_2 ∧ Aside0 (virgationref02_Equal.l0 kq (l0_2.length : Int) x30_2 a0_0 a0_1 l0_2 a1_0 a1_1 l1_2 = some r) ∧ Aside0 (kq ≤ kj2) ∧ Aside0 (w'.heap[gb180]? = some (.cells #[.int .i64 a0_0, .int .i64 a0_1, (.slice A0_2 l0_2.length c0_2)] 50 (0, 0))) ∧ Aside0 (w'.heap[gb181]? = some (.cells #[.int .i64 a1_0, .int .i64 a1_1, (.slice A1_2 l1_2.length c1_2)] 50 (0, 0))) ∧ Aside0 (Below w.heap.size w w'))
    case atStart => exact ⟨(0), (by first | rfl | (simp; done) | (simp [*]; done)), H', ⟨Nat.le_refl _⟩, ⟨by (with_reducible repeat (first | refine aF_ ?_ _ | refine aH_ ?_ | refine aD_ ?_ _)); exact BK180.out⟩, ⟨by (with_reducible repeat (first | refine aF_ ?_ _ | refine aH_ ?_ | refine aD_ ?_ _)); exact BK181.out⟩, ⟨by repeat (first | (with_reducible first | exact HB.out | apply aA_ | apply aB_ | apply aE_ | refine aG_ ?_ GE180.out | refine aG_ ?_ GE181.out) | exact HB.out)⟩⟩
    case round =>
     clear H'
     try clear c1
     try clear p2
     try clear c6
     try clear c6b0
     try clear c6b1
     try clear c7
     try clear c7b0
     try clear c7b1
     try clear c8
     try clear c11
     try clear c14
     try clear c17
     try clear c18
     try clear hcz10_0
     try clear hcz10_1
     try clear hcz10_2
     try clear hcz12_0
     try clear hcz12_1
     try clear hcz12_2
     try clear hcz13_0
     try clear hcz13_1
     try clear hcz13_2
     try clear hcz15_0
     try clear hcz15_1
     try clear hcz15_2
     try clear hcz16_0
     try clear hcz16_1
     try clear hcz16_2
     try clear hcz19_0
     try clear hcz19_1
     try clear hcz19_2
     try clear hcz9_0
     try clear hcz9_1
     try clear hcz9_2
     try clear hfz10_0
     try clear hfz10_1
     try clear hfz10_2
     try clear hfz12_0
     try clear hfz12_1
     try clear hfz12_2
     try clear hfz13_0
     try clear hfz13_1
     try clear hfz13_2
     try clear hfz15_0
     try clear hfz15_1
     try clear hfz15_2
     try clear hfz16_0
     try clear hfz16_1
     try clear hfz16_2
     try clear hfz19_0
     try clear hfz19_1
     try clear hfz19_2
     try clear hfz9_0
     try clear hfz9_1
     try clear hfz9_2
     try clear p2
     obtain ⟨x30_2, rfl, HA, HK2, BK180, BK181, HB⟩ := hrel
     cases gk with
     | zero => exact absurd HA.out (by simp [virgationref02_Equal.l0])
     | succ k2 =>
      have H := HA.out
      clear HA
      simp only [virgationref02_Equal.l0] at H
      by_cases c20 : x30_2 < (l0_2.length : Int)
      ·rw [if_pos c20] at H
       have c20b0 : decide (x30_2 < (l0_2.length : Int)) = true := l2_ c20
       clear c20
       by_cases c21 : 0 ≤ x30_2
       ·rw [if_pos c21] at H
        have c21b0 : decide (0 ≤ x30_2) = true := l2_ c21
        clear c21
        by_cases c22 : x30_2 < (l0_2.length : Int)
        ·rw [if_pos c22] at H
         have c22b0 : decide (x30_2 < (l0_2.length : Int)) = true := l2_ c22
         clear c22
         by_cases c23 : x30_2 < (l1_2.length : Int)
         ·rw [if_pos c23] at H
          have c23b0 : decide (x30_2 < (l1_2.length : Int)) = true := l2_ c23
          clear c23
          replace H := Option.bind_eq_some_iff.mp H
          obtain ⟨t184, A240, H⟩ := H
          replace H : (if t184 = true then (virgationref02_Equal.l0 k2 (l0_2.length : Int) (wrap64 (x30_2 + 1)) a0_0 a0_1 l0_2 a1_0 a1_1 l1_2) else (some false)) = some r := H
          have A24 := mk0 A240
          clear A240
          by_cases c25 : t184 = true
          ·subst c25
           have H1 : (virgationref02_Equal.l0 k2 (l0_2.length : Int) (wrap64 (x30_2 + 1)) a0_0 a0_1 l0_2 a1_0 a1_1 l1_2) = some r := by rw [if_pos rfl] at H; exact H
           clear H
           have H := H1
           clear H1
           have H' := mk0 H
           clear H
           try go_wp2
           have n0_ := mk0 (aH_ BK180.out)
           have n1_ := mk0 (aH_ BK181.out)
           have n2_ := mk0 (aE_ HB.out)
           clear BK180
           clear BK181
           clear HB
           have BK180 := n0_
           have BK181 := n1_
           have HB := n2_
           clear n0_ n1_ n2_
           have p182 : 0 ≤ (x30_2 : Int) := l0_ (by first | (with_reducible assumption) | assumption)
           have q182 : x30_2 < (l0_2.length : Int) := l0_ (by first | (with_reducible assumption) | assumption)
           obtain ⟨ad182, A182_2, c182_2, e182, hx182_0, hx182_1, hx182_2, hl182_2, hi182_2⟩ := at_T50 HR0_2.out x30_2 p182 q182
           have hw182_2 := hx182_2
           have hw182_1 := hx182_1
           have hw182_0 := hx182_0
           cases e182
           replace hx182_0 := (HB.out.cell (l1_ w _ hx182_0)).trans hx182_0
           replace hx182_1 := (HB.out.cell (l1_ w _ hx182_1)).trans hx182_1
           replace hx182_2 := (HB.out.cell (l1_ w _ hx182_2)).trans hx182_2
           have HR182_2 := mk0 hi182_2
           have HC182_2 := mk0 hl182_2
           clear hi182_2 hl182_2
           replace p182 := eq_true p182
           replace q182 := eq_true q182
           have p183 : 0 ≤ (x30_2 : Int) := l0_ (by first | (with_reducible assumption) | assumption)
           have q183 : x30_2 < (l1_2.length : Int) := l0_ (by first | (with_reducible assumption) | assumption)
           obtain ⟨ad183, A183_2, c183_2, e183, hx183_0, hx183_1, hx183_2, hl183_2, hi183_2⟩ := at_T50 HR1_2.out x30_2 p183 q183
           have hw183_2 := hx183_2
           have hw183_1 := hx183_1
           have hw183_0 := hx183_0
           cases e183
           replace hx183_0 := (HB.out.cell (l1_ w _ hx183_0)).trans hx183_0
           replace hx183_1 := (HB.out.cell (l1_ w _ hx183_1)).trans hx183_1
           replace hx183_2 := (HB.out.cell (l1_ w _ hx183_2)).trans hx183_2
           have HR183_2 := mk0 hi183_2
           have HC183_2 := mk0 hl183_2
           clear hi183_2 hl183_2
           replace p183 := eq_true p183
           replace q183 := eq_true q183
           refine start_ (n := 12) (S := fun w' => w'.cell? ⟨gb180, 0, none⟩ = some (.int .i64 a0_0) ∧ w'.cell? ⟨gb180, 1, none⟩ = some (.int .i64 a0_1) ∧ w'.cell? ⟨gb180, 2, none⟩ = some (.slice (some ad182) l0_2.length c0_2) ∧ w'.cell? ⟨gb181, 0, none⟩ = some (.int .i64 a1_0) ∧ w'.cell? ⟨gb181, 1, none⟩ = some (.int .i64 a1_1) ∧ w'.cell? ⟨gb181, 2, none⟩ = some (.slice (some ad183) l1_2.length c1_2) ∧ w'.cell? (ad182.add ((x30_2).toNat * 3)) = some (.int .i64 ((rd_T50 l0_2 x30_2).f0)) ∧ w'.cell? ⟨(ad182.add ((x30_2).toNat * 3)).block, (ad182.add ((x30_2).toNat * 3)).off + 1, none⟩ = some (.int .i64 ((rd_T50 l0_2 x30_2).f1)) ∧ w'.cell? ⟨(ad182.add ((x30_2).toNat * 3)).block, (ad182.add ((x30_2).toNat * 3)).off + 2, none⟩ = some (.slice A182_2 ((rd_T50 l0_2 x30_2).f2).length c182_2) ∧ w'.cell? (ad183.add ((x30_2).toNat * 3)) = some (.int .i64 ((rd_T50 l1_2 x30_2).f0)) ∧ w'.cell? ⟨(ad183.add ((x30_2).toNat * 3)).block, (ad183.add ((x30_2).toNat * 3)).off + 1, none⟩ = some (.int .i64 ((rd_T50 l1_2 x30_2).f1)) ∧ w'.cell? ⟨(ad183.add ((x30_2).toNat * 3)).block, (ad183.add ((x30_2).toNat * 3)).off + 2, none⟩ = some (.slice A183_2 ((rd_T50 l1_2 x30_2).f2).length c183_2)) (ds := []) #[false, false, false, false, false, false, false, false, false, false, false, false] (by kernel_rfl) rfl rfl ⟨(aC_ BK180.out 0).trans rfl, (aC_ BK180.out 1).trans rfl, (aC_ BK180.out 2).trans rfl, (aC_ BK181.out 0).trans rfl, (aC_ BK181.out 1).trans rfl, (aC_ BK181.out 2).trans rfl, ((HB.out.cell (l1_ w _ hw182_0)).trans hw182_0), ((HB.out.cell (l1_ w _ hw182_1)).trans hw182_1), ((HB.out.cell (l1_ w _ hw182_2)).trans hw182_2), ((HB.out.cell (l1_ w _ hw183_0)).trans hw183_0), ((HB.out.cell (l1_ w _ hw183_1)).trans hw183_1), ((HB.out.cell (l1_ w _ hw183_2)).trans hw183_2)⟩ (fun hHeld => ?_); refine with_tabW virgationref02_Equal.tab6 virgationref02_Equal.bits6 (fun HT_ HW_ => ?_)
           generalize wr.drew = w26 at BK180 BK181 HB HR182_2 HR183_2 hx182_0 hx182_1 hx182_2 hx183_0 hx183_1 hx183_2 hHeld ⊢
           refine pure_ (i := 0) (N := some 33) (v := ?_) (a' := ?_) #[true, false, false, false, false, false, false, false, false, false, false, false] rfl rfl (any_of HT_.out (by kernel_rfl)) (fun _ _ _ h => h) (Or.inl ⟨by rfl, ?_⟩) ?_ ?_
           rotate_left
           ·intro w'
            go_simp
            with_reducible rfl
           rotate_left
           ·simp only [Act.put, l4_, l5_, l6_, i64_w, i32_w]
            rfl
           refine pure_ (i := 2) (N := some 35) (v := ?_) (a' := ?_) #[true, false, true, false, false, false, false, false, false, false, false, false] rfl rfl (any_of HT_.out (by kernel_rfl)) (fun _ _ _ h => h) (Or.inl ⟨by rfl, ?_⟩) ?_ ?_
           rotate_left
           ·intro w'
            go_simp
            with_reducible rfl
           rotate_left
           ·simp only [Act.put, l4_, l5_, l6_, i64_w, i32_w]
            rfl
           refine pure_ (i := 5) (N := some 38) (v := ?_) (a' := ?_) #[true, false, true, false, false, true, false, false, false, false, false, false] rfl rfl (any_of HT_.out (by kernel_rfl)) (fun _ _ _ h => h) (Or.inl ⟨by rfl, ?_⟩) ?_ ?_
           rotate_left
           ·intro w'
            go_simp
            with_reducible rfl
           rotate_left
           ·simp only [Act.put, l4_, l5_, l6_, i64_w, i32_w]
            rfl
           refine pure_ (i := 7) (N := some 40) (v := ?_) (a' := ?_) #[true, false, true, false, false, true, false, true, false, false, false, false] rfl rfl (any_of HT_.out (by kernel_rfl)) (fun _ _ _ h => h) (Or.inl ⟨by rfl, ?_⟩) ?_ ?_
           rotate_left
           ·intro w'
            go_simp
            with_reducible rfl
           rotate_left
           ·simp only [Act.put, l4_, l5_, l6_, i64_w, i32_w]
            rfl
           refine take_ (i := 1) (N := some 34) (v := ?_) (a' := ?_) #[true, true, true, false, false, true, false, true, false, false, false, false] rfl rfl (take_ofW HT_.out HW_.out (by kernel_rfl)) (fun _ _ _ h => h) (Or.inl ⟨by rfl, ?_⟩) hHeld ?_ ?_
           rotate_left
           ·rintro w' ⟨s0, s1, s2, s3, s4, s5, s6, s7, s8, s9, s10, s11⟩
            go_simp
            with_reducible rfl
           rotate_left
           ·simp only [Act.put, l4_, l5_, l6_, i64_w, i32_w]
            rfl
           refine pure_ (i := 3) (N := some 36) (v := ?_) (a' := ?_) #[true, true, true, true, false, true, false, true, false, false, false, false] rfl rfl (any_of HT_.out (by kernel_rfl)) (fun _ _ _ h => h) (Or.inl ⟨by rfl, ?_⟩) ?_ ?_
           rotate_left
           ·intro w'
            go_simp
            with_reducible rfl
           rotate_left
           ·simp only [Act.put, l4_, l5_, l6_, i64_w, i32_w]
            rfl
           refine take_ (i := 4) (N := some 37) (v := ?_) (a' := ?_) #[true, true, true, true, true, true, false, true, false, false, false, false] rfl rfl (take_ofW HT_.out HW_.out (by kernel_rfl)) (fun _ _ _ h => h) (Or.inl ⟨by rfl, ?_⟩) hHeld ?_ ?_
           rotate_left
           ·rintro w' ⟨s0, s1, s2, s3, s4, s5, s6, s7, s8, s9, s10, s11⟩
            go_simp
            with_reducible rfl
           rotate_left
           ·simp only [Act.put, l4_, l5_, l6_, i64_w, i32_w]
            rfl
           refine take_ (i := 6) (N := some 39) (v := ?_) (a' := ?_) #[true, true, true, true, true, true, true, true, false, false, false, false] rfl rfl (take_ofW HT_.out HW_.out (by kernel_rfl)) (fun _ _ _ h => h) (Or.inl ⟨by rfl, ?_⟩) hHeld ?_ ?_
           rotate_left
           ·rintro w' ⟨s0, s1, s2, s3, s4, s5, s6, s7, s8, s9, s10, s11⟩
            go_simp
            with_reducible rfl
           rotate_left
           ·simp only [Act.put, l4_, l5_, l6_, i64_w, i32_w]
            rfl
           refine pure_ (i := 8) (N := some 41) (v := ?_) (a' := ?_) #[true, true, true, true, true, true, true, true, true, false, false, false] rfl rfl (any_of HT_.out (by kernel_rfl)) (fun _ _ _ h => h) (Or.inl ⟨by rfl, ?_⟩) ?_ ?_
           rotate_left
           ·intro w'
            go_simp
            with_reducible rfl
           rotate_left
           ·simp only [Act.put, l4_, l5_, l6_, i64_w, i32_w]
            rfl
           refine take_ (i := 9) (N := some 42) (v := ?_) (a' := ?_) #[true, true, true, true, true, true, true, true, true, true, false, false] rfl rfl (take_ofW HT_.out HW_.out (by kernel_rfl)) (fun _ _ _ h => h) (Or.inl ⟨by rfl, ?_⟩) hHeld ?_ ?_
           rotate_left
           ·rintro w' ⟨s0, s1, s2, s3, s4, s5, s6, s7, s8, s9, s10, s11⟩
            go_simp
            with_reducible rfl
           rotate_left
           ·simp only [Act.put, l4_, l5_, l6_, i64_w, i32_w]
            rfl
           refine one_ (i := 10) (N := some 43) #[true, true, true, true, true, true, true, true, true, true, true, false] rfl rfl (one_of HT_.out (by kernel_rfl)) (by decide) (fun K hK => ?_)
           refine goes_ Tryz.func87 (by kernel_rfl) rfl #[.agg #[.int .i64 ((rd_T50 l0_2 x30_2).f0), .int .i64 ((rd_T50 l0_2 x30_2).f1), .slice A182_2 ((rd_T50 l0_2 x30_2).f2).length c182_2], .agg #[.int .i64 ((rd_T50 l1_2 x30_2).f0), .int .i64 ((rd_T50 l1_2 x30_2).f1), .slice A183_2 ((rd_T50 l1_2 x30_2).f2).length c183_2]] (by rfl) rfl rfl (by (try simp only [List.map_toArray, List.map_cons, List.map_nil]); first | done | rfl | (simp only [l9_, List.length_take]; rfl)) ?_
           with_reducible refine (ih k2 (by have := HJ2.out; have := HK2.out; omega) ((rd_T50 l0_2 x30_2).f0) ((rd_T50 l0_2 x30_2).f1) _ _ ((rd_T50 l0_2 x30_2).f2) ((rd_T50 l1_2 x30_2).f0) ((rd_T50 l1_2 x30_2).f1) _ _ ((rd_T50 l1_2 x30_2).f2) true _ ?side1 ?side2 ?side3 ?side4 A24.out).mono ?_
           (case side1 => repeat (first | exact (Kd.C_below HR182_2.out HB.out) | (with_reducible refine Kd.C_alloc ?_ _) | (with_reducible refine Kd.C_drewN ?_ _) | (with_reducible refine Kd.C_drew ?_)))
           (case side2 => exact HC182_2.out)
           (case side3 => repeat (first | exact (Kd.C_below HR183_2.out HB.out) | (with_reducible refine Kd.C_alloc ?_ _) | (with_reducible refine Kd.C_drewN ?_ _) | (with_reducible refine Kd.C_drew ?_)))
           (case side4 => exact HC183_2.out)
           rintro e w27 ⟨rfl, hb⟩
           refine ⟨_, rfl, ?_⟩
           have n0_ := mk0 (aK_ (g := gb180) (o := .cells #[.int .i64 a0_0, .int .i64 a0_1, .slice (some ad182) l0_2.length c0_2] 50 (0, 0)) (by (with_reducible repeat (first | refine aF_ ?_ _ | refine aH_ ?_ | refine aD_ ?_ _)); exact BK180.out) hb)
           have n1_ := mk0 (aK_ (g := gb181) (o := .cells #[.int .i64 a1_0, .int .i64 a1_1, .slice (some ad183) l1_2.length c1_2] 50 (0, 0)) (by (with_reducible repeat (first | refine aF_ ?_ _ | refine aH_ ?_ | refine aD_ ?_ _)); exact BK181.out) hb)
           have n2_ := mk0 (aN_ (by repeat (first | (with_reducible first | exact HB.out | apply aA_ | apply aB_ | apply aE_ | refine aG_ ?_ GE180.out | refine aG_ ?_ GE181.out) | exact HB.out)) hb)
           clear BK180
           clear BK181
           clear HB
           have BK180 := n0_
           have BK181 := n1_
           have HB := n2_
           clear n0_ n1_ n2_
           (try clear hb)
           (try clear hb2)
           (try clear hk)
           (try clear hi)
           refine hK.out _ _ ⟨(aC_ BK180.out 0).trans rfl, (aC_ BK180.out 1).trans rfl, (aC_ BK180.out 2).trans rfl, (aC_ BK181.out 0).trans rfl, (aC_ BK181.out 1).trans rfl, (aC_ BK181.out 2).trans rfl, ((HB.out.cell (l1_ w _ hw182_0)).trans hw182_0), ((HB.out.cell (l1_ w _ hw182_1)).trans hw182_1), ((HB.out.cell (l1_ w _ hw182_2)).trans hw182_2), ((HB.out.cell (l1_ w _ hw183_0)).trans hw183_0), ((HB.out.cell (l1_ w _ hw183_1)).trans hw183_1), ((HB.out.cell (l1_ w _ hw183_2)).trans hw183_2)⟩ (fun hHeld => ?_)
           clear hK K
           refine norm_ (a' := ?_) ?_ ?_
           rotate_left
           ·show Act.put _ (some 43) _ = _
            simp only [Act.put, l4_, l5_, l6_, i64_w, i32_w]
            rfl
           refine pure_ (i := 11) (N := some 44) (v := ?_) (a' := ?_) #[true, true, true, true, true, true, true, true, true, true, true, true] rfl rfl (any_of HT_.out (by kernel_rfl)) (fun _ _ _ h => h) (Or.inl ⟨by rfl, ?_⟩) ?_ ?_
           rotate_left
           ·intro w'
            go_simp
            with_reducible rfl
           rotate_left
           ·simp only [Act.put, l4_, l5_, l6_, i64_w, i32_w]
            rfl
           refine done_ (done_of HT_.out (by kernel_rfl)) ?_
           try go_wp2
           go_roundg k2
           case measure => have := HJ2.out; have := HK2.out; omega
           case rel => exact ⟨(wrap64 (x30_2 + 1)), (by first | rfl | (simp; done) | (simp [*]; done)), H', ⟨by have := HJ2.out; have := HK2.out; omega⟩, ⟨by (with_reducible repeat (first | refine aF_ ?_ _ | refine aH_ ?_ | refine aD_ ?_ _)); exact BK180.out⟩, ⟨by (with_reducible repeat (first | refine aF_ ?_ _ | refine aH_ ?_ | refine aD_ ?_ _)); exact BK181.out⟩, ⟨by repeat (first | (with_reducible first | exact HB.out | apply aA_ | apply aB_ | apply aE_ | refine aG_ ?_ GE180.out | refine aG_ ?_ GE181.out) | exact HB.out)⟩⟩
          ·replace c25 := Bool.eq_false_iff.mpr c25
           subst c25
           have H1 : (some false) = some r := by rw [if_neg (show ¬ (false = true) by decide)] at H; exact H
           clear H
           have H := H1
           clear H1
           obtain rfl := l13_ H
           try go_wp2
           have n0_ := mk0 (aH_ BK180.out)
           have n1_ := mk0 (aH_ BK181.out)
           have n2_ := mk0 (aE_ HB.out)
           clear BK180
           clear BK181
           clear HB
           have BK180 := n0_
           have BK181 := n1_
           have HB := n2_
           clear n0_ n1_ n2_
           have p182 : 0 ≤ (x30_2 : Int) := l0_ (by first | (with_reducible assumption) | assumption)
           have q182 : x30_2 < (l0_2.length : Int) := l0_ (by first | (with_reducible assumption) | assumption)
           obtain ⟨ad182, A182_2, c182_2, e182, hx182_0, hx182_1, hx182_2, hl182_2, hi182_2⟩ := at_T50 HR0_2.out x30_2 p182 q182
           have hw182_2 := hx182_2
           have hw182_1 := hx182_1
           have hw182_0 := hx182_0
           cases e182
           replace hx182_0 := (HB.out.cell (l1_ w _ hx182_0)).trans hx182_0
           replace hx182_1 := (HB.out.cell (l1_ w _ hx182_1)).trans hx182_1
           replace hx182_2 := (HB.out.cell (l1_ w _ hx182_2)).trans hx182_2
           have HR182_2 := mk0 hi182_2
           have HC182_2 := mk0 hl182_2
           clear hi182_2 hl182_2
           replace p182 := eq_true p182
           replace q182 := eq_true q182
           have p183 : 0 ≤ (x30_2 : Int) := l0_ (by first | (with_reducible assumption) | assumption)
           have q183 : x30_2 < (l1_2.length : Int) := l0_ (by first | (with_reducible assumption) | assumption)
           obtain ⟨ad183, A183_2, c183_2, e183, hx183_0, hx183_1, hx183_2, hl183_2, hi183_2⟩ := at_T50 HR1_2.out x30_2 p183 q183
           have hw183_2 := hx183_2
           have hw183_1 := hx183_1
           have hw183_0 := hx183_0
           cases e183
           replace hx183_0 := (HB.out.cell (l1_ w _ hx183_0)).trans hx183_0
           replace hx183_1 := (HB.out.cell (l1_ w _ hx183_1)).trans hx183_1
           replace hx183_2 := (HB.out.cell (l1_ w _ hx183_2)).trans hx183_2
           have HR183_2 := mk0 hi183_2
           have HC183_2 := mk0 hl183_2
           clear hi183_2 hl183_2
           replace p183 := eq_true p183
           replace q183 := eq_true q183
           refine start_ (n := 12) (S := fun w' => w'.cell? ⟨gb180, 0, none⟩ = some (.int .i64 a0_0) ∧ w'.cell? ⟨gb180, 1, none⟩ = some (.int .i64 a0_1) ∧ w'.cell? ⟨gb180, 2, none⟩ = some (.slice (some ad182) l0_2.length c0_2) ∧ w'.cell? ⟨gb181, 0, none⟩ = some (.int .i64 a1_0) ∧ w'.cell? ⟨gb181, 1, none⟩ = some (.int .i64 a1_1) ∧ w'.cell? ⟨gb181, 2, none⟩ = some (.slice (some ad183) l1_2.length c1_2) ∧ w'.cell? (ad182.add ((x30_2).toNat * 3)) = some (.int .i64 ((rd_T50 l0_2 x30_2).f0)) ∧ w'.cell? ⟨(ad182.add ((x30_2).toNat * 3)).block, (ad182.add ((x30_2).toNat * 3)).off + 1, none⟩ = some (.int .i64 ((rd_T50 l0_2 x30_2).f1)) ∧ w'.cell? ⟨(ad182.add ((x30_2).toNat * 3)).block, (ad182.add ((x30_2).toNat * 3)).off + 2, none⟩ = some (.slice A182_2 ((rd_T50 l0_2 x30_2).f2).length c182_2) ∧ w'.cell? (ad183.add ((x30_2).toNat * 3)) = some (.int .i64 ((rd_T50 l1_2 x30_2).f0)) ∧ w'.cell? ⟨(ad183.add ((x30_2).toNat * 3)).block, (ad183.add ((x30_2).toNat * 3)).off + 1, none⟩ = some (.int .i64 ((rd_T50 l1_2 x30_2).f1)) ∧ w'.cell? ⟨(ad183.add ((x30_2).toNat * 3)).block, (ad183.add ((x30_2).toNat * 3)).off + 2, none⟩ = some (.slice A183_2 ((rd_T50 l1_2 x30_2).f2).length c183_2)) (ds := []) #[false, false, false, false, false, false, false, false, false, false, false, false] (by kernel_rfl) rfl rfl ⟨(aC_ BK180.out 0).trans rfl, (aC_ BK180.out 1).trans rfl, (aC_ BK180.out 2).trans rfl, (aC_ BK181.out 0).trans rfl, (aC_ BK181.out 1).trans rfl, (aC_ BK181.out 2).trans rfl, ((HB.out.cell (l1_ w _ hw182_0)).trans hw182_0), ((HB.out.cell (l1_ w _ hw182_1)).trans hw182_1), ((HB.out.cell (l1_ w _ hw182_2)).trans hw182_2), ((HB.out.cell (l1_ w _ hw183_0)).trans hw183_0), ((HB.out.cell (l1_ w _ hw183_1)).trans hw183_1), ((HB.out.cell (l1_ w _ hw183_2)).trans hw183_2)⟩ (fun hHeld => ?_); refine with_tabW virgationref02_Equal.tab6 virgationref02_Equal.bits6 (fun HT_ HW_ => ?_)
           generalize wr.drew = w28 at BK180 BK181 HB HR182_2 HR183_2 hx182_0 hx182_1 hx182_2 hx183_0 hx183_1 hx183_2 hHeld ⊢
           refine pure_ (i := 0) (N := some 33) (v := ?_) (a' := ?_) #[true, false, false, false, false, false, false, false, false, false, false, false] rfl rfl (any_of HT_.out (by kernel_rfl)) (fun _ _ _ h => h) (Or.inl ⟨by rfl, ?_⟩) ?_ ?_
           rotate_left
           ·intro w'
            go_simp
            with_reducible rfl
           rotate_left
           ·simp only [Act.put, l4_, l5_, l6_, i64_w, i32_w]
            rfl
           refine pure_ (i := 2) (N := some 35) (v := ?_) (a' := ?_) #[true, false, true, false, false, false, false, false, false, false, false, false] rfl rfl (any_of HT_.out (by kernel_rfl)) (fun _ _ _ h => h) (Or.inl ⟨by rfl, ?_⟩) ?_ ?_
           rotate_left
           ·intro w'
            go_simp
            with_reducible rfl
           rotate_left
           ·simp only [Act.put, l4_, l5_, l6_, i64_w, i32_w]
            rfl
           refine pure_ (i := 5) (N := some 38) (v := ?_) (a' := ?_) #[true, false, true, false, false, true, false, false, false, false, false, false] rfl rfl (any_of HT_.out (by kernel_rfl)) (fun _ _ _ h => h) (Or.inl ⟨by rfl, ?_⟩) ?_ ?_
           rotate_left
           ·intro w'
            go_simp
            with_reducible rfl
           rotate_left
           ·simp only [Act.put, l4_, l5_, l6_, i64_w, i32_w]
            rfl
           refine pure_ (i := 7) (N := some 40) (v := ?_) (a' := ?_) #[true, false, true, false, false, true, false, true, false, false, false, false] rfl rfl (any_of HT_.out (by kernel_rfl)) (fun _ _ _ h => h) (Or.inl ⟨by rfl, ?_⟩) ?_ ?_
           rotate_left
           ·intro w'
            go_simp
            with_reducible rfl
           rotate_left
           ·simp only [Act.put, l4_, l5_, l6_, i64_w, i32_w]
            rfl
           refine take_ (i := 1) (N := some 34) (v := ?_) (a' := ?_) #[true, true, true, false, false, true, false, true, false, false, false, false] rfl rfl (take_ofW HT_.out HW_.out (by kernel_rfl)) (fun _ _ _ h => h) (Or.inl ⟨by rfl, ?_⟩) hHeld ?_ ?_
           rotate_left
           ·rintro w' ⟨s0, s1, s2, s3, s4, s5, s6, s7, s8, s9, s10, s11⟩
            go_simp
            with_reducible rfl
           rotate_left
           ·simp only [Act.put, l4_, l5_, l6_, i64_w, i32_w]
            rfl
           refine pure_ (i := 3) (N := some 36) (v := ?_) (a' := ?_) #[true, true, true, true, false, true, false, true, false, false, false, false] rfl rfl (any_of HT_.out (by kernel_rfl)) (fun _ _ _ h => h) (Or.inl ⟨by rfl, ?_⟩) ?_ ?_
           rotate_left
           ·intro w'
            go_simp
            with_reducible rfl
           rotate_left
           ·simp only [Act.put, l4_, l5_, l6_, i64_w, i32_w]
            rfl
           refine take_ (i := 4) (N := some 37) (v := ?_) (a' := ?_) #[true, true, true, true, true, true, false, true, false, false, false, false] rfl rfl (take_ofW HT_.out HW_.out (by kernel_rfl)) (fun _ _ _ h => h) (Or.inl ⟨by rfl, ?_⟩) hHeld ?_ ?_
           rotate_left
           ·rintro w' ⟨s0, s1, s2, s3, s4, s5, s6, s7, s8, s9, s10, s11⟩
            go_simp
            with_reducible rfl
           rotate_left
           ·simp only [Act.put, l4_, l5_, l6_, i64_w, i32_w]
            rfl
           refine take_ (i := 6) (N := some 39) (v := ?_) (a' := ?_) #[true, true, true, true, true, true, true, true, false, false, false, false] rfl rfl (take_ofW HT_.out HW_.out (by kernel_rfl)) (fun _ _ _ h => h) (Or.inl ⟨by rfl, ?_⟩) hHeld ?_ ?_
           rotate_left
           ·rintro w' ⟨s0, s1, s2, s3, s4, s5, s6, s7, s8, s9, s10, s11⟩
            go_simp
            with_reducible rfl
           rotate_left
           ·simp only [Act.put, l4_, l5_, l6_, i64_w, i32_w]
            rfl
           refine pure_ (i := 8) (N := some 41) (v := ?_) (a' := ?_) #[true, true, true, true, true, true, true, true, true, false, false, false] rfl rfl (any_of HT_.out (by kernel_rfl)) (fun _ _ _ h => h) (Or.inl ⟨by rfl, ?_⟩) ?_ ?_
           rotate_left
           ·intro w'
            go_simp
            with_reducible rfl
           rotate_left
           ·simp only [Act.put, l4_, l5_, l6_, i64_w, i32_w]
            rfl
           refine take_ (i := 9) (N := some 42) (v := ?_) (a' := ?_) #[true, true, true, true, true, true, true, true, true, true, false, false] rfl rfl (take_ofW HT_.out HW_.out (by kernel_rfl)) (fun _ _ _ h => h) (Or.inl ⟨by rfl, ?_⟩) hHeld ?_ ?_
           rotate_left
           ·rintro w' ⟨s0, s1, s2, s3, s4, s5, s6, s7, s8, s9, s10, s11⟩
            go_simp
            with_reducible rfl
           rotate_left
           ·simp only [Act.put, l4_, l5_, l6_, i64_w, i32_w]
            rfl
           refine one_ (i := 10) (N := some 43) #[true, true, true, true, true, true, true, true, true, true, true, false] rfl rfl (one_of HT_.out (by kernel_rfl)) (by decide) (fun K hK => ?_)
           refine goes_ Tryz.func87 (by kernel_rfl) rfl #[.agg #[.int .i64 ((rd_T50 l0_2 x30_2).f0), .int .i64 ((rd_T50 l0_2 x30_2).f1), .slice A182_2 ((rd_T50 l0_2 x30_2).f2).length c182_2], .agg #[.int .i64 ((rd_T50 l1_2 x30_2).f0), .int .i64 ((rd_T50 l1_2 x30_2).f1), .slice A183_2 ((rd_T50 l1_2 x30_2).f2).length c183_2]] (by rfl) rfl rfl (by (try simp only [List.map_toArray, List.map_cons, List.map_nil]); first | done | rfl | (simp only [l9_, List.length_take]; rfl)) ?_
           with_reducible refine (ih k2 (by have := HJ2.out; have := HK2.out; omega) ((rd_T50 l0_2 x30_2).f0) ((rd_T50 l0_2 x30_2).f1) _ _ ((rd_T50 l0_2 x30_2).f2) ((rd_T50 l1_2 x30_2).f0) ((rd_T50 l1_2 x30_2).f1) _ _ ((rd_T50 l1_2 x30_2).f2) false _ ?side1 ?side2 ?side3 ?side4 A24.out).mono ?_
           (case side1 => repeat (first | exact (Kd.C_below HR182_2.out HB.out) | (with_reducible refine Kd.C_alloc ?_ _) | (with_reducible refine Kd.C_drewN ?_ _) | (with_reducible refine Kd.C_drew ?_)))
           (case side2 => exact HC182_2.out)
           (case side3 => repeat (first | exact (Kd.C_below HR183_2.out HB.out) | (with_reducible refine Kd.C_alloc ?_ _) | (with_reducible refine Kd.C_drewN ?_ _) | (with_reducible refine Kd.C_drew ?_)))
           (case side4 => exact HC183_2.out)
           rintro e w29 ⟨rfl, hb⟩
           refine ⟨_, rfl, ?_⟩
           have n0_ := mk0 (aK_ (g := gb180) (o := .cells #[.int .i64 a0_0, .int .i64 a0_1, .slice (some ad182) l0_2.length c0_2] 50 (0, 0)) (by (with_reducible repeat (first | refine aF_ ?_ _ | refine aH_ ?_ | refine aD_ ?_ _)); exact BK180.out) hb)
           have n1_ := mk0 (aK_ (g := gb181) (o := .cells #[.int .i64 a1_0, .int .i64 a1_1, .slice (some ad183) l1_2.length c1_2] 50 (0, 0)) (by (with_reducible repeat (first | refine aF_ ?_ _ | refine aH_ ?_ | refine aD_ ?_ _)); exact BK181.out) hb)
           have n2_ := mk0 (aN_ (by repeat (first | (with_reducible first | exact HB.out | apply aA_ | apply aB_ | apply aE_ | refine aG_ ?_ GE180.out | refine aG_ ?_ GE181.out) | exact HB.out)) hb)
           clear BK180
           clear BK181
           clear HB
           have BK180 := n0_
           have BK181 := n1_
           have HB := n2_
           clear n0_ n1_ n2_
           (try clear hb)
           (try clear hb2)
           (try clear hk)
           (try clear hi)
           refine hK.out _ _ ⟨(aC_ BK180.out 0).trans rfl, (aC_ BK180.out 1).trans rfl, (aC_ BK180.out 2).trans rfl, (aC_ BK181.out 0).trans rfl, (aC_ BK181.out 1).trans rfl, (aC_ BK181.out 2).trans rfl, ((HB.out.cell (l1_ w _ hw182_0)).trans hw182_0), ((HB.out.cell (l1_ w _ hw182_1)).trans hw182_1), ((HB.out.cell (l1_ w _ hw182_2)).trans hw182_2), ((HB.out.cell (l1_ w _ hw183_0)).trans hw183_0), ((HB.out.cell (l1_ w _ hw183_1)).trans hw183_1), ((HB.out.cell (l1_ w _ hw183_2)).trans hw183_2)⟩ (fun hHeld => ?_)
           clear hK K
           refine norm_ (a' := ?_) ?_ ?_
           rotate_left
           ·show Act.put _ (some 43) _ = _
            simp only [Act.put, l4_, l5_, l6_, i64_w, i32_w]
            rfl
           refine pure_ (i := 11) (N := some 44) (v := ?_) (a' := ?_) #[true, true, true, true, true, true, true, true, true, true, true, true] rfl rfl (any_of HT_.out (by kernel_rfl)) (fun _ _ _ h => h) (Or.inl ⟨by rfl, ?_⟩) ?_ ?_
           rotate_left
           ·intro w'
            go_simp
            with_reducible rfl
           rotate_left
           ·simp only [Act.put, l4_, l5_, l6_, i64_w, i32_w]
            rfl
           refine done_ (done_of HT_.out (by kernel_rfl)) ?_
           try go_wp2
           go_ret
           exact ⟨by first | rfl | (simp [aS_, aR_] <;> rfl) | (simp [*, aS_, aR_] <;> rfl), by repeat (first | (with_reducible first | exact HB.out | apply aA_ | apply aB_ | apply aE_ | refine aG_ ?_ GE180.out | refine aG_ ?_ GE181.out) | exact HB.out)⟩
         ·rw [if_neg c23] at H
          exact absurd H (by simp)
        ·rw [if_neg c22] at H
         exact absurd H (by simp)
       ·rw [if_neg c21] at H
        exact absurd H (by simp)
      ·rw [if_neg c20] at H
       have c20b0 : decide (x30_2 < (l0_2.length : Int)) = false := l3_ c20
       clear c20
       obtain rfl := l13_ H
       go_wp2
       go_ret
       exact ⟨by first | rfl | (simp [aS_, aR_] <;> rfl) | (simp [*, aS_, aR_] <;> rfl), by repeat (first | (with_reducible first | exact HB.out | apply aA_ | apply aB_ | apply aE_ | refine aG_ ?_ GE180.out | refine aG_ ?_ GE181.out) | exact HB.out)⟩
mutual
def virgationref01_Nodes.l0 : Nat → Int → Int → Int → List (S47) → Option (Int)
 | 0, _, _, _, _ => none
 | k + 1, x1, x5, x6, x186000 => if x6 < (x186000.length : Int) then (if x5 ≤ x1 then (if 0 ≤ x6 then ((virgationref01_Nodes.f k ((rd_T47 x186000 x6).f0) (wrap64 (x1 - x5))).bind fun t187 => (virgationref01_Nodes.l0 k x1 (wrap64 (x5 + t187)) (wrap64 (x6 + 1)) x186000)) else (none)) else (some x5)) else (some x5)
def virgationref01_Nodes.f : Nat → List (S47) → Int → Option (Int)
 | 0, _, _ => none
 | k + 1, l0_0, a1 => virgationref01_Nodes.l0 k a1 1 0 l0_0
end
set_option maxHeartbeats 8000000 in
set_option maxRecDepth 100000 in
theorem virgationref01_Nodes.calls (k : Nat) : ∀ (A0_0 : Option Addr) (c0_0 : Nat) (l0_0 : List (S47)) (a1 : Int) (r : Int) (w : World) (hr0_0 : Kd.C k47 w A0_0 l0_0.length l0_0) (hc0_0 : l0_0.length ≤ c0_0) (h : virgationref01_Nodes.f k l0_0 a1 = some r),
  Calls Tryz.prog 88 #[.agg #[.slice A0_0 l0_0.length c0_0], .int .i64 a1] w fun e w' => e = .returned (.int .i64 r) ∧ Below w.heap.size w w' := by
 induction k using Nat.strongRecOn with
 | _ k ih =>
 intro A0_0 c0_0 l0_0 a1 r w hr0_0 hc0_0 h
 cases k with
 | zero => exact absurd h (by simp [virgationref01_Nodes.f])
 | succ k =>
 simp only [virgationref01_Nodes.f] at h
 have hu47 := Tryz.underlying47
 have HR0_0 := mk0 hr0_0
 have HC0_0 := mk0 hc0_0
 clear hr0_0 hc0_0
 have HB := mk0 (Below.refl w.heap.size w)
 have H : (virgationref01_Nodes.l0 k a1 1 0 l0_0) = some r := h
 clear h
 have H' := mk0 H
 clear H
 go_enter Tryz.func88, Tryz.ntmps88
 go_wp2_with (first | ((with_reducible refine gate_dst (N := 2) rfl ?_); refine box_event ?hg (N := 2) ?hd (cs := #[.slice A0_0 l0_0.length c0_0]) (t := 47) ?hr ?_; (case hd => rfl); (case hg => rfl); (case hr => first | (go_simp; done) | (go_simp; rfl)); intro gb185 hg w3 hbox hb; have n0_ := mk0 (aN_ (by repeat (first | (with_reducible first | exact HB.out | apply aA_ | apply aB_ | apply aE_) | exact HB.out)) hb); have n1_ := mk0 (hbox); have n2_ := mk0 ((by rw [hg]; exact (aL_ (by repeat (first | (with_reducible first | exact HB.out | apply aA_ | apply aB_ | apply aE_) | exact HB.out))) : w.heap.size ≤ gb185)); have n3_ := mk0 ((by rw [hg]; exact (aL_ (by repeat (first | (with_reducible first | exact HB.out | apply aA_ | apply aB_ | apply aE_) | exact HB.out))) : w.heap.size ≤ gb185)); clear HB; have HB := n0_; have BK185 := n1_; have GW185 := n2_; have GE185 := n3_; clear n0_ n1_ n2_ n3_; clear hb hbox hg))
 go_loopg [5, 6] k (fun kq v5 v6 w' => ∃ (x5_1 : Int) (x6_1 : Int), v5 = .int .i64 x5_1 ∧ v6 = .int .i64 x6_1 ∧ Aside0 (virgationref01_Nodes.l0 kq a1 x5_1 x6_1 l0_0 = some r) ∧ Aside0 (kq ≤ k) ∧ Aside0 (w'.heap[gb185]? = some (.cells #[(.slice A0_0 l0_0.length c0_0)] 47 (0, 0))) ∧ Aside0 (Below w.heap.size w w'))
 case atStart => exact ⟨(1), (0), (by first | rfl | (simp; done) | (simp [*]; done)), (by first | rfl | (simp; done) | (simp [*]; done)), H', ⟨Nat.le_refl _⟩, ⟨by (with_reducible repeat (first | refine aF_ ?_ _ | refine aH_ ?_ | refine aD_ ?_ _)); exact BK185.out⟩, ⟨by repeat (first | (with_reducible first | exact HB.out | apply aA_ | apply aB_ | apply aE_ | refine aG_ ?_ GE185.out) | exact HB.out)⟩⟩
 case round =>
  clear H'
  try clear p2
  obtain ⟨x5_1, x6_1, rfl, rfl, HA, HK1, BK185, HB⟩ := hrel
  cases gk with
  | zero => exact absurd HA.out (by simp [virgationref01_Nodes.l0])
  | succ k1 =>
   have H := HA.out
   clear HA
   simp only [virgationref01_Nodes.l0] at H
   by_cases c4 : x6_1 < (l0_0.length : Int)
   ·rw [if_pos c4] at H
    have c4b0 : decide (x6_1 < (l0_0.length : Int)) = true := l2_ c4
    clear c4
    by_cases c5 : x5_1 ≤ a1
    ·rw [if_pos c5] at H
     have c5b0 : decide (x5_1 ≤ a1) = true := l2_ c5
     clear c5
     by_cases c6 : 0 ≤ x6_1
     ·rw [if_pos c6] at H
      have c6b0 : decide (0 ≤ x6_1) = true := l2_ c6
      clear c6
      replace H := Option.bind_eq_some_iff.mp H
      obtain ⟨t187, A70, H⟩ := H
      replace H : (virgationref01_Nodes.l0 k1 a1 (wrap64 (x5_1 + t187)) (wrap64 (x6_1 + 1)) l0_0) = some r := H
      have A7 := mk0 A70
      clear A70
      have H' := mk0 H
      clear H
      have hcz8_0 : wr.cell? ⟨gb185, 0, none⟩ = some (.slice A0_0 l0_0.length c0_0) := (aC_ BK185.out 0).trans rfl
      have hfz8_0 := aJ_ BK185.out 0
      have p186 : 0 ≤ (x6_1 : Int) := l0_ (by first | (with_reducible assumption) | assumption)
      have q186 : x6_1 < (l0_0.length : Int) := l0_ (by first | (with_reducible assumption) | assumption)
      obtain ⟨ad186, A186_0, c186_0, e186, hx186_0, hl186_0, hi186_0⟩ := at_T47 HR0_0.out x6_1 p186 q186
      cases e186
      replace hx186_0 := (HB.out.cell (l1_ w _ hx186_0)).trans hx186_0
      have HR186_0 := mk0 hi186_0
      have HC186_0 := mk0 hl186_0
      clear hi186_0 hl186_0
      replace p186 := eq_true p186
      replace q186 := eq_true q186
      go_wp2_with (first | ((with_reducible refine gate_callee (f := 88) rfl ?_); refine goesL_ (some 28) rfl rfl Tryz.func88 (by kernel_rfl) rfl #[.agg #[.slice A186_0 ((rd_T47 l0_0 x6_1).f0).length c186_0], .int .i64 (wrap64 (a1 - x5_1))] rfl (by (try simp only [List.map_toArray, List.map_cons, List.map_nil]); first | done | rfl | (simp only [l9_, List.length_take]; rfl)) ?_; (with_reducible refine (ih k1 (by have := HK1.out; omega) _ _ ((rd_T47 l0_0 x6_1).f0) (wrap64 (a1 - x5_1)) t187 _ ?side1 ?side2 A7.out).mono ?_); (case side1 => repeat (first | exact (Kd.C_below HR186_0.out HB.out) | (with_reducible refine Kd.C_alloc ?_ _) | (with_reducible refine Kd.C_drewN ?_ _) | (with_reducible refine Kd.C_drew ?_))); (case side2 => exact HC186_0.out); rintro e w9 ⟨rfl, hb⟩; refine ⟨_, rfl, ?_⟩; have n0_ := mk0 (aK_ (g := gb185) (o := .cells #[.slice (some ad186) l0_0.length c0_0] 47 (0, 0)) (by (with_reducible repeat (first | refine aF_ ?_ _ | refine aH_ ?_ | refine aD_ ?_ _)); exact BK185.out) hb); have n1_ := mk0 (aN_ (by repeat (first | (with_reducible first | exact HB.out | apply aA_ | apply aB_ | apply aE_ | refine aG_ ?_ GE185.out) | exact HB.out)) hb); clear BK185; clear HB; have BK185 := n0_; have HB := n1_; clear n0_ n1_; (try clear hb); (try clear hb2); (try clear hk); (try clear hi)))
      go_roundg k1
      case measure => have := HK1.out; omega
      case rel => exact ⟨(wrap64 (x5_1 + t187)), (wrap64 (x6_1 + 1)), (by first | rfl | (simp; done) | (simp [*]; done)), (by first | rfl | (simp; done) | (simp [*]; done)), H', ⟨by have := HK1.out; omega⟩, ⟨by (with_reducible repeat (first | refine aF_ ?_ _ | refine aH_ ?_ | refine aD_ ?_ _)); exact BK185.out⟩, ⟨by repeat (first | (with_reducible first | exact HB.out | apply aA_ | apply aB_ | apply aE_ | refine aG_ ?_ GE185.out) | exact HB.out)⟩⟩
     ·rw [if_neg c6] at H
      exact absurd H (by simp)
    ·rw [if_neg c5] at H
     have c5b0 : decide (x5_1 ≤ a1) = false := l3_ c5
     clear c5
     obtain rfl := l13_ H
     have hcz10_0 : wr.cell? ⟨gb185, 0, none⟩ = some (.slice A0_0 l0_0.length c0_0) := (aC_ BK185.out 0).trans rfl
     have hfz10_0 := aJ_ BK185.out 0
     go_wp2
     go_ret
     exact ⟨by first | rfl | (simp [aS_, aR_] <;> rfl) | (simp [*, aS_, aR_] <;> rfl), by repeat (first | (with_reducible first | exact HB.out | apply aA_ | apply aB_ | apply aE_ | refine aG_ ?_ GE185.out) | exact HB.out)⟩
   ·rw [if_neg c4] at H
    have c4b0 : decide (x6_1 < (l0_0.length : Int)) = false := l3_ c4
    clear c4
    obtain rfl := l13_ H
    have hcz11_0 : wr.cell? ⟨gb185, 0, none⟩ = some (.slice A0_0 l0_0.length c0_0) := (aC_ BK185.out 0).trans rfl
    have hfz11_0 := aJ_ BK185.out 0
    go_wp2
    go_ret
    exact ⟨by first | rfl | (simp [aS_, aR_] <;> rfl) | (simp [*, aS_, aR_] <;> rfl), by repeat (first | (with_reducible first | exact HB.out | apply aA_ | apply aB_ | apply aE_ | refine aG_ ?_ GE185.out) | exact HB.out)⟩
end Go.Proofs.YthflpbgloeimfaaGreatDoor.Q
