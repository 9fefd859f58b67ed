/- What autoRound_calls, handed_and_shaped, own, laidOut, laid7, mx_of_shaped, tabD_of_laid, arg_auto, arg_tree needs, out of my texts, by a program (slim.py). -/
import Derived.Test.YtbmcigakiibncaaGreatDoorSR2
namespace Go.Proofs.YtbmcigakiibncaaGreatDoor.H
open Go.RowKit Go.Proofs.YtbmcigakiibncaaGreatDoorW.PrintWords Go.Proofs.YtbmcigakiibncaaGreatDoorW.PrintLast Go.Proofs.YtbmcigakiibncaaGreatDoorW.PrintMore
open Go.Proofs.YtbmcigakiibncaaGreatDoor.Q (S28 k28)
set_option linter.unusedVariables false
set_option linter.unusedSimpArgs false
def exT : ByteArray := ⟨#[114, 97, 110, 107, 115, 32, 50, 32, 49, 32, 48, 10, 115, 116, 97, 116, 101, 115, 32, 49, 32, 115, 116, 97, 114, 116, 32, 48, 10, 48, 32, 48, 58, 32, 48, 46, 48, 32, 49, 46, 48, 10, 48, 32, 50, 58, 10]⟩
def rk0 : List Int := [2, 1, 0]
def M0 : Mv := [[[[⟨0, 0⟩, ⟨1, 0⟩]], [], [[]]]]
def D0 : Mv := [[[[⟨0, 0⟩], [⟨1, 0⟩]], [[]], []]]
def c0T : S28 := ⟨2, []⟩
def b0T : S28 := ⟨1, [⟨2, []⟩]⟩
def exD : List UInt8 := [114, 97, 110, 107, 115, 32, 50, 32, 49, 32, 48, 10, 115, 116, 97, 116, 101, 115, 32, 49, 32, 115, 116, 97, 114, 116, 32, 48, 10, 48, 32, 48, 58, 32, 48, 46, 48, 10, 48, 32, 48, 58, 32, 49, 46, 48, 10, 48, 32, 49, 58, 10]
theorem ex_get : getR exT = (0, rk0, 0, M0) := by kernel_rfl
theorem ex_dual : dualR rk0 0 M0 = (0, rk0, 0, D0) := by kernel_rfl
theorem ex_put : putR rk0 0 D0 = (exD, 0) := by kernel_rfl
theorem ex_is1 : isV rk0 0 M0 0 c0T = true ∧ stErr rk0 0 M0 0 c0T = 0 := ⟨by kernel_rfl, by kernel_rfl⟩
theorem ex_is2 : isV rk0 0 M0 0 b0T = false ∧ stErr rk0 0 M0 0 b0T = 0 := ⟨by kernel_rfl, by kernel_rfl⟩
theorem ex_is3 : isV rk0 0 D0 1 b0T = true ∧ stErr rk0 0 D0 1 b0T = 0 := ⟨by kernel_rfl, by kernel_rfl⟩
theorem get0_calls (w : World) (hm : MX w) : Calls Tryz.prog 26 #[.string exT] w fun E w' => ∃ A1 c1 A2 c2, E = .returned (.tuple #[.agg #[.slice A1 rk0.length c1, .int .i64 0, .slice A2 M0.length c2], .int .i64 0]) ∧ Kd.C (Kd.int .i64) w' A1 rk0.length rk0 ∧ rk0.length ≤ c1 ∧ Kd.C kA3 w' A2 M0.length M0 ∧ Below w.heap.size w w' := by
  refine (get_calls exT w hm).mono ?_
  intro E w' h
  unfold GetE at h
  rw [ex_get] at h
  obtain ⟨A1, c1, A2, c2, rfl, h1, h2, h3, h4, h5⟩ := h
  exact ⟨A1, c1, A2, c2, rfl, h1, h2, h3, h5⟩
theorem dual0_calls (A1 : Option Addr) (c1 : Nat) (A2 : Option Addr) (c2 : Nat) (w : World) (hr : Kd.C (Kd.int .i64) w A1 rk0.length rk0) (hc1 : rk0.length ≤ c1) (hM : Kd.C kA3 w A2 M0.length M0) (ht : TabD w) :
    Calls Tryz.prog 21 #[.agg #[.slice A1 rk0.length c1, .int .i64 0, .slice A2 M0.length c2]] w fun E w' => ∃ A1 c1 A2 c2, E = .returned (.tuple #[.agg #[.slice A1 rk0.length c1, .int .i64 0, .slice A2 D0.length c2], .int .i64 0]) ∧ Kd.C (Kd.int .i64) w' A1 rk0.length rk0 ∧ rk0.length ≤ c1 ∧ Kd.C kA3 w' A2 D0.length D0 ∧ Below w.heap.size w w' := by
  refine (adual_calls rk0 M0 0 A1 c1 A2 c2 w hr hc1 hM ht).mono ?_
  intro E w' h
  unfold DualRE at h
  rw [ex_dual] at h
  obtain ⟨v1, v2, rfl, h1, h2, h3⟩ := h
  obtain ⟨A3, c3, rfl⟩ := Kd.R_slice h1
  obtain ⟨A4, c4, rfl⟩ := Kd.R_slice h2
  have r1 := Kd.R_reads' h1
  have r2 := Kd.R_reads' h2
  exact ⟨A3, c3, A4, c4, rfl, r1.2.2, r1.2.1, r2.2.2, h3⟩
theorem C_nilT (w : World) : Kd.C k28 w none 0 [] := ⟨rfl, by simp, fun h => absurd h (by simp)⟩
theorem C_oneT {w : World} {g : Nat} {f0 : Int} (h : w.heap[g]? = some (.cells #[.int .i64 f0, .slice none 0 0] 28 (0, 0))) : Kd.C k28 w (some ⟨g, 0, none⟩) 1 [⟨f0, []⟩] := by
  refine ⟨rfl, by simp, fun _ => ⟨_, rfl, fun j p hj => ?_⟩⟩
  have hj0 : j = 0 := by
    have := (List.getElem?_eq_some_iff.1 hj).1
    simpa using this
  subst hj0
  obtain rfl : (⟨f0, []⟩ : S28) = p := by simpa using hj
  refine ⟨[.int .i64 f0, .slice none 0 0], rfl, Q.k28_mk w ⟨f0, []⟩ (A1 := none) (c1 := 0) (Nat.le_refl _) (C_nilT w), fun i u hu => ?_⟩
  rw [show (Addr.add ⟨g, 0, none⟩ (0 * k28.sz + i)) = ⟨g, i, none⟩ by rw [Nat.zero_mul, Nat.zero_add]; simp [Addr.add]; exact fun e => e.symm, blk_cell h i]
  match i, hu with
  | 0, hu => simpa using hu
  | 1, hu => simpa using hu
  | i + 2, hu => simp at hu
theorem box3_of {W : World} {b : Nat} {x y z : Value} (h : W.heap[b]? = some (.cells #[x, y, z] 25 (0, 0))) : W.cell? ⟨b, 0, none⟩ = some x ∧ W.cell? ⟨b, 1, none⟩ = some y ∧ W.cell? ⟨b, 2, none⟩ = some z := ⟨(blk_cell h 0).trans rfl, (blk_cell h 1).trans rfl, (blk_cell h 2).trans rfl⟩
theorem box2_of {W : World} {b : Nat} {x y : Value} (h : W.heap[b]? = some (.cells #[x, y] 28 (0, 0))) : W.cell? ⟨b, 0, none⟩ = some x ∧ W.cell? ⟨b, 1, none⟩ = some y := ⟨(blk_cell h 0).trans rfl, (blk_cell h 1).trans rfl⟩
theorem exD_list : (⟨exD.toArray⟩ : ByteArray).toList = exD := by rw [Lib.toList_data]
theorem is1_calls (A1 : Option Addr) (c1 : Nat) (A2 : Option Addr) (c2 : Nat) (w : World) (hr : Kd.C (Kd.int .i64) w A1 rk0.length rk0) (hc1 : rk0.length ≤ c1) (hM : Kd.C kA3 w A2 M0.length M0) (hT : Tab w) :
    Calls Tryz.prog 15 #[.agg #[.slice A1 rk0.length c1, .int .i64 0, .slice A2 M0.length c2], .int .i64 0, .agg #[.int .i64 2, .slice none 0 0]] w fun E w' => E = .returned (.tuple #[.bool true, .int .i64 0]) ∧ Below w.heap.size w w' := by
  have h := aisG_calls rk0 M0 0 0 c0T A1 c1 A2 c2 none 0 w hr hc1 hM (C_nilT w) (Nat.le_refl _) hT
  rw [ex_is1.1, ex_is1.2] at h
  exact h
theorem is2_calls (A1 : Option Addr) (c1 : Nat) (A2 : Option Addr) (c2 : Nat) (g : Nat) (w : World) (hr : Kd.C (Kd.int .i64) w A1 rk0.length rk0) (hc1 : rk0.length ≤ c1) (hM : Kd.C kA3 w A2 M0.length M0) (hg : w.heap[g]? = some (.cells #[.int .i64 2, .slice none 0 0] 28 (0, 0))) (hT : Tab w) :
    Calls Tryz.prog 15 #[.agg #[.slice A1 rk0.length c1, .int .i64 0, .slice A2 M0.length c2], .int .i64 0, .agg #[.int .i64 1, .slice (some ⟨g, 0, none⟩) 1 1]] w fun E w' => E = .returned (.tuple #[.bool false, .int .i64 0]) ∧ Below w.heap.size w w' := by
  have h := aisG_calls rk0 M0 0 0 b0T A1 c1 A2 c2 (some ⟨g, 0, none⟩) 1 w hr hc1 hM (C_oneT hg) (Nat.le_refl _) hT
  rw [ex_is2.1, ex_is2.2] at h
  exact h
theorem is3_calls (A1 : Option Addr) (c1 : Nat) (A2 : Option Addr) (c2 : Nat) (g : Nat) (w : World) (hr : Kd.C (Kd.int .i64) w A1 rk0.length rk0) (hc1 : rk0.length ≤ c1) (hM : Kd.C kA3 w A2 D0.length D0) (hg : w.heap[g]? = some (.cells #[.int .i64 2, .slice none 0 0] 28 (0, 0))) (hT : Tab w) :
    Calls Tryz.prog 15 #[.agg #[.slice A1 rk0.length c1, .int .i64 0, .slice A2 D0.length c2], .int .i64 1, .agg #[.int .i64 1, .slice (some ⟨g, 0, none⟩) 1 1]] w fun E w' => E = .returned (.tuple #[.bool true, .int .i64 0]) ∧ Below w.heap.size w w' := by
  have h := aisG_calls rk0 D0 0 1 b0T A1 c1 A2 c2 (some ⟨g, 0, none⟩) 1 w hr hc1 hM (C_oneT hg) (Nat.le_refl _) hT
  rw [ex_is3.1, ex_is3.2] at h
  exact h
theorem put0_calls (A1 : Option Addr) (c1 : Nat) (A2 : Option Addr) (c2 : Nat) (w : World) (hr : Kd.C (Kd.int .i64) w A1 rk0.length rk0) (hc1 : rk0.length ≤ c1) (hM : Kd.C kA3 w A2 D0.length D0) :
    Calls Tryz.prog 24 #[.agg #[.slice A1 rk0.length c1, .int .i64 0, .slice A2 D0.length c2]] w fun E w' => E = .returned (.tuple #[.string ⟨exD.toArray⟩, .int .i64 0]) ∧ Below w.heap.size w w' := by
  refine (put_calls rk0 D0 0 A1 c1 A2 c2 w hr hc1 hM).mono ?_
  intro E w' h
  unfold PutE at h
  rw [ex_put] at h
  exact h
set_option maxHeartbeats 16000000 in
set_option maxRecDepth 100000 in
theorem alive_calls (w : World) (hm : MX w) (ht : TabD w) : Calls Tryz.prog 18 #[] w fun E w' => E = .returned (.bool true) ∧ Below w.heap.size w w' := by
  have HG := Aside0.mk (get0_calls w hm)
  have HT := Aside0.mk ht
  unfold exT at HG
  clear hm ht
  go_enter Tryz.func18, Tryz.ntmps18
  go_wp2_with fail
  refine (HG.out).mono ?_
  rintro E W1 ⟨A1, c1, A2, c2, rfl, hr1, hc1, hM1, hb1⟩
  have HB1 := Aside0.mk hb1
  have HR1 := Aside0.mk hr1
  have HC1 := Aside0.mk hc1
  have HM1 := Aside0.mk hM1
  have hba := below_alloc (Below.refl W1.heap.size W1) (.cells #[.slice A1 rk0.length c1, .int .i64 0, .slice A2 M0.length c2] 25)
  have HX1 := Aside0.mk (blk_new W1 (.cells #[.slice A1 rk0.length c1, .int .i64 0, .slice A2 M0.length c2] 25))
  have HB2 := Aside0.mk (below_then hb1 hb1.size hba)
  have HR2 := Aside0.mk (Kd.C_below hr1 hba)
  have HM2 := Aside0.mk (Kd.C_below hM1 hba)
  clear hr1 hc1 hM1 hb1 hba HG HR1 HM1
  go_upto_region 2 with (fail)
  generalize W1.alloc (.cells #[.slice A1 rk0.length c1, .int .i64 0, .slice A2 M0.length c2] 25) = W2 at *
  generalize W1.heap.size = b1 at *
  obtain ⟨k0, k1, k2⟩ := box3_of HX1.out
  have HDU := Aside0.mk (dual0_calls A1 c1 A2 c2 W2 HR2.out HC1.out HM2.out ((HT.out).below HB2.out))
  go_wp2_with fail
  refine (HDU.out).mono ?_
  rintro E W3 ⟨A3, c3, A4, c4, rfl, hr3, hc3, hM3, hb3⟩
  have hba := below_alloc (Below.refl W3.heap.size W3) (.cells #[.slice A3 rk0.length c3, .int .i64 0, .slice A4 D0.length c4] 25)
  have hb4 := below_then hb3 hb3.size hba
  have HB4 := Aside0.mk (below_then HB2.out (HB2.out).size hb4)
  have HX1' := Aside0.mk (blk_below HX1.out hb4)
  have HR4 := Aside0.mk (Kd.C_below HR2.out hb4)
  have HM4 := Aside0.mk (Kd.C_below HM2.out hb4)
  have HX3 := Aside0.mk (blk_new W3 (.cells #[.slice A3 rk0.length c3, .int .i64 0, .slice A4 D0.length c4] 25))
  have HC3 := Aside0.mk hc3
  have HS4 := Aside0.mk (Kd.C_below hr3 hba)
  have HN4 := Aside0.mk (Kd.C_below hM3 hba)
  clear hr3 hc3 hM3 hb3 hba hb4 k0 k1 k2 HDU HX1 HR2 HM2 HB2
  go_upto_region 3 with (fail)
  generalize W3.alloc (.cells #[.slice A3 rk0.length c3, .int .i64 0, .slice A4 D0.length c4] 25) = W4 at *
  generalize W3.heap.size = b3 at *
  have hba := below_alloc (below_alloc (below_alloc (Below.refl W4.heap.size W4) (.cells #[.int .i64 2, .slice none 0 0] 28)) (.cells #[.int .i64 2, .slice none 0 0] 28)) (.cells #[.int .i64 1, .slice (some ⟨W4.heap.size + 1, 0, none⟩) 1 1] 28)
  have h5 := blk_alloc (blk_alloc (blk_new W4 (.cells #[.int .i64 2, .slice none 0 0] 28)) (.cells #[.int .i64 2, .slice none 0 0] 28)) (.cells #[.int .i64 1, .slice (some ⟨W4.heap.size + 1, 0, none⟩) 1 1] 28)
  have h6 := blk_alloc (blk_at2 W4 (.cells #[.int .i64 2, .slice none 0 0] 28) (.cells #[.int .i64 2, .slice none 0 0] 28)) (.cells #[.int .i64 1, .slice (some ⟨W4.heap.size + 1, 0, none⟩) 1 1] 28)
  have h7 := blk_new ((W4.alloc (.cells #[.int .i64 2, .slice none 0 0] 28)).alloc (.cells #[.int .i64 2, .slice none 0 0] 28)) (.cells #[.int .i64 1, .slice (some ⟨W4.heap.size + 1, 0, none⟩) 1 1] 28)
  have k5 := box2_of (blk_new W4 (.cells #[.int .i64 2, .slice none 0 0] 28))
  obtain ⟨k50, k51⟩ := k5
  have HB5 := Aside0.mk (below_then HB4.out (HB4.out).size hba)
  have HX5 := Aside0.mk (blk_below HX1'.out hba)
  have HY5 := Aside0.mk (blk_below HX3.out hba)
  have HR5 := Aside0.mk (Kd.C_below HR4.out hba)
  have HM5 := Aside0.mk (Kd.C_below HM4.out hba)
  have HS5 := Aside0.mk (Kd.C_below HS4.out hba)
  have HN5 := Aside0.mk (Kd.C_below HN4.out hba)
  have HT5 := Aside0.mk h5
  have HT6 := Aside0.mk h6
  rw [show ((W4.alloc (.cells #[.int .i64 2, .slice none 0 0] 28)).alloc (.cells #[.int .i64 2, .slice none 0 0] 28)).heap.size = W4.heap.size + 1 + 1 by simp] at h7
  have HT7 := Aside0.mk h7
  clear hba h5 h6 h7
  go_upto_region 5 with (fail)
  clear k50 k51
  generalize (((W4.alloc (.cells #[.int .i64 2, .slice none 0 0] 28)).alloc (.cells #[.int .i64 2, .slice none 0 0] 28)).alloc (.cells #[.int .i64 1, .slice (some ⟨W4.heap.size + 1, 0, none⟩) 1 1] 28)) = W5 at *
  generalize W4.heap.size = g at *
  have HI1 := Aside0.mk (fun (W : World) (hb : Below W5.heap.size W5 W) => is1_calls A1 c1 A2 c2 W (Kd.C_below HR5.out hb) HC1.out (Kd.C_below HM5.out hb) ((HT.out).tab.below (below_then HB5.out (HB5.out).size hb)))
  have HI2 := Aside0.mk (fun (W : World) (hb : Below W5.heap.size W5 W) => is2_calls A1 c1 A2 c2 (g + 1) W (Kd.C_below HR5.out hb) HC1.out (Kd.C_below HM5.out hb) (blk_below HT6.out hb) ((HT.out).tab.below (below_then HB5.out (HB5.out).size hb)))
  have HI3 := Aside0.mk (fun (W : World) (hb : Below W5.heap.size W5 W) => is3_calls A3 c3 A4 c4 (g + 1) W (Kd.C_below HS5.out hb) HC3.out (Kd.C_below HN5.out hb) (blk_below HT6.out hb) ((HT.out).tab.below (below_then HB5.out (HB5.out).size hb)))
  have HPU := Aside0.mk (fun (W : World) (hb : Below W5.heap.size W5 W) => put0_calls A3 c3 A4 c4 W (Kd.C_below HS5.out hb) HC3.out (Kd.C_below HN5.out hb))
  obtain ⟨k10, k11, k12⟩ := box3_of HX5.out
  obtain ⟨k50, k51⟩ := box2_of HT5.out
  go_wp2_with fail
  refine (HI1.out _ (Below.refl _ _)).mono ?_
  rintro E W6 ⟨rfl, hb6⟩
  have HB6 := Aside0.mk hb6
  clear k10 k11 k12 k50 k51 hb6
  obtain ⟨k10, k11, k12⟩ := box3_of (blk_below HX5.out HB6.out)
  obtain ⟨k60, k61⟩ := box2_of (blk_below HT7.out HB6.out)
  go_wp2_with fail
  refine (HI2.out _ HB6.out).mono ?_
  rintro E W7 ⟨rfl, hb7⟩
  have HB7 := Aside0.mk (below_then HB6.out (HB6.out).size hb7)
  clear k10 k11 k12 k60 k61 hb7
  obtain ⟨k10, k11, k12⟩ := box3_of (blk_below HY5.out HB7.out)
  obtain ⟨k60, k61⟩ := box2_of (blk_below HT7.out HB7.out)
  go_wp2_with fail
  refine (HI3.out _ HB7.out).mono ?_
  rintro E W8 ⟨rfl, hb8⟩
  have HB8 := Aside0.mk (below_then HB7.out (HB7.out).size hb8)
  clear k10 k11 k12 k60 k61 hb8
  obtain ⟨k10, k11, k12⟩ := box3_of (blk_below HY5.out HB8.out)
  go_wp2_with fail
  refine (HPU.out _ HB8.out).mono ?_
  rintro E W9 ⟨rfl, hb9⟩
  have HB9 := Aside0.mk (below_then HB5.out (HB5.out).size (below_then HB8.out (HB8.out).size hb9))
  have hex := exD_list
  unfold exD at hex ⊢
  clear k10 k11 k12 hb9
  go_wp2
  go_ret
  exact ⟨rfl, HB9.out⟩
end Go.Proofs.YtbmcigakiibncaaGreatDoor.H
namespace Go.Proofs.YtbmcigakiibncaaGreatDoor.H
open Go.RowKit Go.Proofs.YtbmcigakiibncaaGreatDoorW.PrintWords Go.Proofs.YtbmcigakiibncaaGreatDoorW.PrintLast Go.Proofs.YtbmcigakiibncaaGreatDoorW.PrintMore
set_option linter.unusedVariables false
set_option linter.unusedSimpArgs false
def eqF {α : Type} (d : α) (p : α → α → Bool) (a b : List α) : Bool := decide (a.length = b.length) && allF (fun i => p (a.getD i d) (b.getD i d)) 0 a.length
theorem eqF_iff {α : Type} {d : α} {p : α → α → Bool} (hp : ∀ x y, p x y = true ↔ x = y) (a b : List α) : eqF d p a b = true ↔ a = b := by
  unfold eqF
  rw [Bool.and_eq_true, allF_iff, decide_eq_true_eq]
  constructor
  · rintro ⟨h1, h2⟩
    refine List.ext_getElem h1 fun i hi hj => ?_
    have h3 := (hp _ _).1 (h2 i (Nat.zero_le _) (by omega))
    simpa [List.getD_eq_getElem?_getD, hi, hj] using h3
  · rintro rfl
    exact ⟨rfl, fun i _ _ => (hp _ _).2 rfl⟩
def ndEq (x y : Nd) : Bool := x.f0 == y.f0 && x.f1 == y.f1
theorem ndEq_iff (x y : Nd) : ndEq x y = true ↔ x = y := by
  cases x; cases y; simp [ndEq]
def eq1 : List Nd → List Nd → Bool := eqF zN ndEq
def eq2 : List (List Nd) → List (List Nd) → Bool := eqF [] eq1
def eq3 : List (List (List Nd)) → List (List (List Nd)) → Bool := eqF [] eq2
def eq4 : Mv → Mv → Bool := eqF [] eq3
theorem eq1_iff (a b : List Nd) : eq1 a b = true ↔ a = b := eqF_iff ndEq_iff a b
theorem eq2_iff (a b : List (List Nd)) : eq2 a b = true ↔ a = b := eqF_iff eq1_iff a b
theorem eq3_iff (a b : List (List (List Nd))) : eq3 a b = true ↔ a = b := eqF_iff eq2_iff a b
theorem eq4_iff (a b : Mv) : eq4 a b = true ↔ a = b := eqF_iff eq3_iff a b
theorem eqF_len {α : Type} {d : α} {p : α → α → Bool} {a b : List α} (h : a.length ≠ b.length) : eqF d p a b = false := by unfold eqF; rw [decide_eq_false h]; rfl
theorem eqF_at {α : Type} {d : α} {p : α → α → Bool} {a b : List α} {i : Nat} (hi : i < a.length) (h : p (a.getD i d) (b.getD i d) = false) : eqF d p a b = false := by
  cases e : eqF d p a b with
  | false => rfl
  | true =>
    unfold eqF at e
    rw [Bool.and_eq_true, allF_iff] at e
    have := e.2 i (Nat.zero_le _) (by omega)
    rw [h] at this; cases this
theorem eqF_all {α : Type} {d : α} {p : α → α → Bool} {a b : List α} (hl : a.length = b.length) (h : ∀ i, i < a.length → p (a.getD i d) (b.getD i d) = true) : eqF d p a b = true := by
  unfold eqF
  rw [decide_eq_true hl, Bool.true_and, allF_iff]
  exact fun i _ hi => h i (by omega)
end Go.Proofs.YtbmcigakiibncaaGreatDoor.H
namespace Go.Proofs.YtbmcigakiibncaaGreatDoor.H
open Go.RowKit Go.Proofs.YtbmcigakiibncaaGreatDoorW.PrintWords Go.Proofs.YtbmcigakiibncaaGreatDoorW.PrintLast Go.Proofs.YtbmcigakiibncaaGreatDoorW.PrintMore
set_option linter.unusedVariables false
set_option linter.unusedSimpArgs false
def eqI : List Int → List Int → Bool := eqF 0 (fun x y => decide (x = y))
theorem eqI_iff (a b : List Int) : eqI a b = true ↔ a = b := eqF_iff (fun x y => decide_eq_true_iff) a b
theorem rdI_at {l : List Int} {j : Nat} : rd l (j : Int) = l.getD j 0 := by simp [rd]
theorem eqI_l0 (a b : List Int) (hm : a.length ≤ 9223372036854775807) (hl : a.length = b.length) (d : Nat) : ∀ j : Nat, a.length - j = d → j ≤ a.length → Ev (fun k => Q.slices_Equal_int_int.l0 k a b (a.length : Int) (j : Int)) (allF (fun i => decide (a.getD i 0 = b.getD i 0)) j d) := by
  induction d with
  | zero =>
    intro j hd hj
    refine ev_end fun k => ?_
    simp only [Q.slices_Equal_int_int.l0]
    rw [if_neg (by omega)]; rfl
  | succ d ih =>
    intro j hd hj
    rw [allF]
    by_cases e : a.getD j 0 = b.getD j 0
    · rw [decide_eq_true e, Bool.true_and]
      refine ev_next (ih (j + 1) (by omega) (by omega)) fun k => ?_
      simp only [Q.slices_Equal_int_int.l0]
      rw [rdI_at, rdI_at, if_pos (by omega), if_pos (by omega), if_pos (by omega), if_pos (by omega), if_pos e, wrap_succ (by omega) (by omega)]
      rfl
    · rw [decide_eq_false e, Bool.false_and]
      refine ev_end fun k => ?_
      simp only [Q.slices_Equal_int_int.l0]
      rw [rdI_at, rdI_at, if_pos (by omega), if_pos (by omega), if_pos (by omega), if_pos (by omega), if_neg e]
theorem eqI_ev (a b : List Int) (hm : a.length ≤ 9223372036854775807) : Ev (fun k => Q.slices_Equal_int_int.f k a b) (eqI a b) := by
  unfold Q.slices_Equal_int_int.f
  by_cases hl : a.length = b.length
  · simp only [if_pos (show (a.length : Int) = (b.length : Int) by omega)]
    have h := eqI_l0 a b hm hl _ 0 rfl (Nat.zero_le _)
    unfold eqI eqF
    rw [decide_eq_true hl, Bool.true_and]
    exact h
  · simp only [if_neg (show ¬ (a.length : Int) = (b.length : Int) by omega)]
    rw [show eqI a b = false from eqF_len hl]
    exact ev_end fun k => rfl
theorem sr_eq : ∀ (k : Nat) (x0 x1 : List Int) (x12 x13 : Int), Q.virgationref09_SameRanks.l0 k x0 x1 x12 x13 = Q.slices_Equal_int_int.l0 k x0 x1 x12 x13
  | 0, _, _, _, _ => rfl
  | k + 1, x0, x1, x12, x13 => by
    simp only [Q.virgationref09_SameRanks.l0, Q.slices_Equal_int_int.l0]
    rw [sr_eq k]
theorem sameRanks_ev (a b : List Int) (hm : a.length ≤ 9223372036854775807) : Ev (fun k => Q.virgationref09_SameRanks.f k a b) (eqI a b) :=
  Ev.congr (fun k => by unfold Q.virgationref09_SameRanks.f Q.slices_Equal_int_int.f; rw [sr_eq]) (eqI_ev a b hm)
theorem eqMoves_l0 (a b : List (List Nd)) (hm : a.length ≤ 9223372036854775807) (hx : ∀ x ∈ a, x.length ≤ 9223372036854775807) (hl : a.length = b.length) (d : Nat) : ∀ j : Nat, a.length - j = d → j ≤ a.length → Ev (fun k => Q.virgationref09_EqualMoves.l0 k a b (a.length : Int) (j : Int)) (allF (fun i => eq1 (a.getD i []) (b.getD i [])) j d) := by
  induction d with
  | zero =>
    intro j hd hj
    refine ev_end fun k => ?_
    simp only [Q.virgationref09_EqualMoves.l0]
    rw [if_neg (by omega)]; rfl
  | succ d ih =>
    intro j hd hj
    rw [allF]
    refine ev_next (f := fun k => (Q.virgationref09_Compare.f k (a.getD j []) (b.getD j [])).bind fun t => if t = 0 then Q.virgationref09_EqualMoves.l0 k a b (a.length : Int) ((j + 1 : Nat) : Int) else some false) (Ev.bind (compareF_ev _ _ (hx _ (getD_memD [] (by omega)))) ?_) fun k => ?_
    · by_cases e : a.getD j [] = b.getD j []
      · rw [(eq1_iff _ _).2 e, Bool.true_and, e, cmpL_self]
        simp only [if_pos (show sgI 0 = 0 from rfl)]
        exact ih (j + 1) (by omega) (by omega)
      · have e1 : eq1 (a.getD j []) (b.getD j []) = false := by
          cases h : eq1 (a.getD j []) (b.getD j []) with
          | false => rfl
          | true => exact absurd ((eq1_iff _ _).1 h) e
        rw [e1, Bool.false_and]
        simp only [if_neg (show ¬ sgI (cmpL (a.getD j []) (b.getD j [])) = 0 from fun h => e (cmpL_zero ((sgI_zero _).1 h)))]
        exact ev_end fun k => rfl
    · simp only [Q.virgationref09_EqualMoves.l0]
      rw [rdL2_at, rdL2_at, if_pos (by omega), if_pos (by omega), if_pos (by omega), if_pos (by omega), wrap_succ (by omega) (by omega)]
      rfl
theorem eqMoves_ev (a b : List (List Nd)) (hm : a.length ≤ 9223372036854775807) (hx : ∀ x ∈ a, x.length ≤ 9223372036854775807) : Ev (fun k => Q.virgationref09_EqualMoves.f k a b) (eq2 a b) := by
  unfold Q.virgationref09_EqualMoves.f
  by_cases hl : a.length = b.length
  · simp only [if_pos (show (a.length : Int) = (b.length : Int) by omega)]
    have h := eqMoves_l0 a b hm hx hl _ 0 rfl (Nat.zero_le _)
    unfold eq2 eqF
    rw [decide_eq_true hl, Bool.true_and]
    exact h
  · simp only [if_neg (show ¬ (a.length : Int) = (b.length : Int) by omega)]
    rw [show eq2 a b = false from eqF_len hl]
    exact ev_end fun k => rfl
def sameB (rk : List Int) (st : Int) (M : Mv) (rk' : List Int) (st' : Int) (M' : Mv) : Bool := auB rk st M && (auB rk' st' M' && (eqI rk rk' && (decide (st = st') && eq4 M M')))
end Go.Proofs.YtbmcigakiibncaaGreatDoor.H
namespace Go.Proofs.YtbmcigakiibncaaGreatDoor.H
open Go.RowKit Go.Proofs.YtbmcigakiibncaaGreatDoorW.PrintWords Go.Proofs.YtbmcigakiibncaaGreatDoorW.PrintLast Go.Proofs.YtbmcigakiibncaaGreatDoorW.PrintMore
set_option linter.unusedVariables false
set_option linter.unusedSimpArgs false
structure TX2 (w : World) (x y z x' y' z' : Value) (W : World) : Prop where
  hb : Below w.heap.size w W
  box : W.heap[w.heap.size]? = some (.cells #[x, y, z] 25 (0, 0))
  box' : W.heap[w.heap.size + 1]? = some (.cells #[x', y', z'] 25 (0, 0))
theorem TX2.below {w W W1 : World} {x y z x' y' z' : Value} (h : TX2 w x y z x' y' z' W) (hb : Below W.heap.size W W1) : TX2 w x y z x' y' z' W1 :=
  ⟨below_then h.hb h.hb.size hb, blk_below h.box hb, blk_below h.box' hb⟩
theorem TX2.start (w : World) (x y z x' y' z' : Value) : TX2 w x y z x' y' z' ((w.alloc (.cells #[x, y, z] 25)).alloc (.cells #[x', y', z'] 25)) :=
  ⟨below_alloc (below_alloc (Below.refl w.heap.size w) _) _, blk_alloc (blk_new w _) _, blk_at2 w _ _⟩
end Go.Proofs.YtbmcigakiibncaaGreatDoor.H
namespace Go.Proofs.YtbmcigakiibncaaGreatDoor.H
open Go.RowKit Go.Proofs.YtbmcigakiibncaaGreatDoorW.PrintWords Go.Proofs.YtbmcigakiibncaaGreatDoorW.PrintLast Go.Proofs.YtbmcigakiibncaaGreatDoorW.PrintMore
set_option linter.unusedVariables false
set_option linter.unusedSimpArgs false
theorem sameRanks_calls (A : Option Addr) (c : Nat) (a : List Int) (B : Option Addr) (d : Nat) (b : List Int) (w : World) (hA : Kd.C (Kd.int .i64) w A a.length a) (hc : a.length ≤ c) (hB : Kd.C (Kd.int .i64) w B b.length b) (hd : b.length ≤ d) :
    Calls Tryz.prog 67 #[.slice A a.length c, .slice B b.length d] w fun e w' => e = .returned (.bool (eqI a b)) ∧ Below w.heap.size w w' := by
  obtain ⟨k, hk⟩ := (sameRanks_ev a b hA.2.1).rounds
  exact (Q.virgationref09_SameRanks.calls k A c a B d b _ w hA hc hB hd hk).mono fun e w' h => ⟨h.1, by first | exact h.2 | exact h.2.below⟩
theorem eqMoves_calls (A : Option Addr) (c : Nat) (a : List (List Nd)) (B : Option Addr) (d : Nat) (b : List (List Nd)) (w : World) (hA : Kd.C kA1 w A a.length a) (hc : a.length ≤ c) (hB : Kd.C kA1 w B b.length b) (hd : b.length ≤ d) :
    Calls Tryz.prog 68 #[.slice A a.length c, .slice B b.length d] w fun e w' => e = .returned (.bool (eq2 a b)) ∧ Below w.heap.size w w' := by
  obtain ⟨k, hk⟩ := (eqMoves_ev a b hA.2.1 (fun x hx => by obtain ⟨A1, h1⟩ := C_kids hA hx; exact h1.2.1)).rounds
  exact (Q.virgationref09_EqualMoves.calls k A c a B d b _ w hA hc hB hd hk).mono fun e w' h => ⟨h.1, by first | exact h.2 | exact h.2.below⟩
set_option maxHeartbeats 16000000 in
set_option maxRecDepth 100000 in
theorem rsame_calls (rk : List Int) (M : Mv) (st : Int) (A1 : Option Addr) (c1 : Nat) (A2 : Option Addr) (c2 : Nat) (rk' : List Int) (M' : Mv) (st' : Int) (B1 : Option Addr) (d1 : Nat) (B2 : Option Addr) (d2 : Nat) (w : World)
    (hr : Kd.C (Kd.int .i64) w A1 rk.length rk) (hc1 : rk.length ≤ c1) (hM : Kd.C kA3 w A2 M.length M) (hc2 : M.length ≤ c2)
    (hr' : Kd.C (Kd.int .i64) w B1 rk'.length rk') (hd1 : rk'.length ≤ d1) (hM' : Kd.C kA3 w B2 M'.length M') (hd2 : M'.length ≤ d2) :
    Calls Tryz.prog 28 #[.agg #[.slice A1 rk.length c1, .int .i64 st, .slice A2 M.length c2], .agg #[.slice B1 rk'.length d1, .int .i64 st', .slice B2 M'.length d2]] w fun e w' => e = .returned (.bool (sameB rk st M rk' st' M')) ∧ Below w.heap.size w w' := by
  have HC1 := Aside0.mk fun W (hW : Below w.heap.size w W) => isA_calls rk M st A1 c1 A2 c2 W (Kd.C_below hr hW) hc1 (Kd.C_below hM hW) hc2
  have HC2 := Aside0.mk fun W (hW : Below w.heap.size w W) => isA_calls rk' M' st' B1 d1 B2 d2 W (Kd.C_below hr' hW) hd1 (Kd.C_below hM' hW) hd2
  have HE := Aside0.mk fun W (hW : Below w.heap.size w W) => sameRanks_calls A1 c1 rk B1 d1 rk' W (Kd.C_below hr hW) hc1 (Kd.C_below hr' hW) hd1
  have HM := Aside0.mk hM
  have HM' := Aside0.mk hM'
  have HS := Aside0.mk (TX2.start w (.slice A1 rk.length c1) (.int .i64 st) (.slice A2 M.length c2) (.slice B1 rk'.length d1) (.int .i64 st') (.slice B2 M'.length d2))
  have HV := Aside0.mk (show sameB rk st M rk' st' M' = (auB rk st M && (auB rk' st' M' && (eqI rk rk' && (decide (st = st') && eq4 M M')))) from rfl)
  clear hr hc1 hM hc2 hr' hd1 hM' hd2
  generalize sameB rk st M rk' st' M' = R at *
  go_enter Tryz.func28, Tryz.ntmps28
  go_upto_region 1 with (fail)
  generalize ((w.alloc (.cells #[.slice A1 rk.length c1, .int .i64 st, .slice A2 M.length c2] 25)).alloc (.cells #[.slice B1 rk'.length d1, .int .i64 st', .slice B2 M'.length d2] 25)) = W1 at *
  have k0 : W1.cell? ⟨w.heap.size, 0, none⟩ = some (.slice A1 rk.length c1) := (blk_cell (HS.out).box 0).trans rfl
  have k1 : W1.cell? ⟨w.heap.size, 1, none⟩ = some (.int .i64 st) := (blk_cell (HS.out).box 1).trans rfl
  have k2 : W1.cell? ⟨w.heap.size, 2, none⟩ = some (.slice A2 M.length c2) := (blk_cell (HS.out).box 2).trans rfl
  go_wp2_with fail
  refine (HC1.out _ (HS.out).hb).mono ?_
  rintro E W2 ⟨rfl, hb⟩
  have HS2 := Aside0.mk ((HS.out).below hb)
  clear hb HS k0 k1 k2 HC1
  cases h1 : auB rk st M with
  | false =>
    have HP := Aside0.mk (show R = false by rw [HV.out, h1]; rfl)
    clear h1 HV
    go_wp2
    go_ret
    exact ⟨by rw [HP.out]; rfl, (HS2.out).hb⟩
  | true =>
  have HO1 := Aside0.mk (auOk h1)
  rw [h1, Bool.true_and] at HV
  clear h1
  have k0 : W2.cell? ⟨w.heap.size + 1, 0, none⟩ = some (.slice B1 rk'.length d1) := (blk_cell (HS2.out).box' 0).trans rfl
  have k1 : W2.cell? ⟨w.heap.size + 1, 1, none⟩ = some (.int .i64 st') := (blk_cell (HS2.out).box' 1).trans rfl
  have k2 : W2.cell? ⟨w.heap.size + 1, 2, none⟩ = some (.slice B2 M'.length d2) := (blk_cell (HS2.out).box' 2).trans rfl
  go_wp2_with fail
  refine (HC2.out _ (HS2.out).hb).mono ?_
  rintro E W3 ⟨rfl, hb⟩
  have HS3 := Aside0.mk ((HS2.out).below hb)
  clear hb HS2 k0 k1 k2 HC2
  cases h2 : auB rk' st' M' with
  | false =>
    have HP := Aside0.mk (show R = false by rw [HV.out, h2]; rfl)
    clear h2 HV
    go_wp2
    go_ret
    exact ⟨by rw [HP.out]; rfl, (HS3.out).hb⟩
  | true =>
  have HO2 := Aside0.mk (auOk h2)
  rw [h2, Bool.true_and] at HV
  clear h2
  have k0 : W3.cell? ⟨w.heap.size, 0, none⟩ = some (.slice A1 rk.length c1) := (blk_cell (HS3.out).box 0).trans rfl
  have k4 : W3.cell? ⟨w.heap.size + 1, 0, none⟩ = some (.slice B1 rk'.length d1) := (blk_cell (HS3.out).box' 0).trans rfl
  go_wp2_with fail
  refine (HE.out _ (HS3.out).hb).mono ?_
  rintro E W4 ⟨rfl, hb⟩
  have HS4 := Aside0.mk ((HS3.out).below hb)
  clear hb HS3 k0 k4 HE
  cases h4 : eqI rk rk' with
  | false =>
    have HP := Aside0.mk (show R = false by rw [HV.out, h4]; rfl)
    clear HV
    go_wp2
    go_ret
    exact ⟨by rw [HP.out]; rfl, (HS4.out).hb⟩
  | true =>
  have HRE := Aside0.mk ((eqI_iff _ _).1 h4)
  rw [h4, Bool.true_and] at HV
  clear h4
  have k1 : W4.cell? ⟨w.heap.size, 1, none⟩ = some (.int .i64 st) := (blk_cell (HS4.out).box 1).trans rfl
  have k3 : W4.cell? ⟨w.heap.size + 1, 1, none⟩ = some (.int .i64 st') := (blk_cell (HS4.out).box' 1).trans rfl
  cases h3 : (st != st') with
  | true =>
    have HP := Aside0.mk (show R = false by rw [HV.out, show decide (st = st') = false by simpa using h3]; simp)
    clear HV
    go_wp2
    go_ret
    exact ⟨by rw [HP.out]; rfl, (HS4.out).hb⟩
  | false =>
  have h3' : decide (st = st') = true := by simpa using h3
  rw [h3', Bool.true_and] at HV
  have k2 : W4.cell? ⟨w.heap.size, 2, none⟩ = some (.slice A2 M.length c2) := (blk_cell (HS4.out).box 2).trans rfl
  have k5 : W4.cell? ⟨w.heap.size + 1, 2, none⟩ = some (.slice B2 M'.length d2) := (blk_cell (HS4.out).box' 2).trans rfl
  have k0 : W4.cell? ⟨w.heap.size, 0, none⟩ = some (.slice A1 rk.length c1) := (blk_cell (HS4.out).box 0).trans rfl
  cases h5 : ((M.length : Int) != (M'.length : Int)) with
  | true =>
    have HP := Aside0.mk (show R = false by
      rw [HV.out]
      exact eqF_len (by have : ¬ (M.length : Int) = (M'.length : Int) := by simpa using h5
                        omega))
    clear HV
    go_wp2
    go_ret
    exact ⟨by rw [HP.out]; rfl, (HS4.out).hb⟩
  | false =>
  have HLM := Aside0.mk (show M.length = M'.length by have : (M.length : Int) = (M'.length : Int) := by simpa using h5
                                                      omega)
  have HN6 := Aside0.mk (HO1.out).nM
  have HN24 := Aside0.mk (HO1.out).nrk
  go_wp2
  clear k0 k1 k2 k3 k5 h3 h3' h5
  go_loopg [42] M.length (fun gg v42 wi => ∃ q : Nat, q ≤ M.length ∧ M.length - q ≤ gg ∧ v42 = .int .i64 q ∧ Aside0 (TX2 w (.slice A1 rk.length c1) (.int .i64 st) (.slice A2 M.length c2) (.slice B1 rk'.length d1) (.int .i64 st') (.slice B2 M'.length d2) wi) ∧ Aside0 (∀ i, i < q → eq3 (M.getD i []) (M'.getD i []) = true))
  case atStart => exact ⟨0, Nat.zero_le _, Nat.le_refl _, rfl, HS4, ⟨fun i hi => absurd hi (Nat.not_lt_zero _)⟩⟩
  case round =>
    clear HS4
    obtain ⟨q, hq, hgg, rfl, HS, HP⟩ := hrel
    by_cases hlt : q < M.length
    · have hltz : (q : Int) < (M.length : Int) := by omega
      have HLT := Aside0.mk hlt
      have HKQ := Aside0.mk (show wrap64 ((q : Int) + 1) = ((q + 1 : Nat) : Int) by rw [wr_id (by omega) (by have := HN6.out; omega)]; rfl)
      obtain ⟨ad, A3, c3, e, hk, hl3, hC3⟩ := at_sl HM.out q hlt
      subst e
      obtain ⟨bd, B3, d3, e, hkb, hl4, hC4⟩ := at_sl HM'.out q (by have := HLM.out; omega)
      subst e
      have HK := Aside0.mk hk
      have HKB := Aside0.mk hkb
      have HC3 := Aside0.mk hC3
      have HC4 := Aside0.mk hC4
      have HF := Aside0.mk (show eq3 (M.getD q []) (M'.getD q []) = false → R = false from fun h => by rw [HV.out]; exact eqF_at hlt h)
      have HT := Aside0.mk (show eq3 (M.getD q []) (M'.getD q []) = true → ∀ i, i < q + 1 → eq3 (M.getD i []) (M'.getD i []) = true from fun h i hi => by
        rcases Nat.lt_or_ge i q with h2 | h2
        · exact HP.out i h2
        · rw [show i = q by omega]; exact h)
      have HR1 := Aside0.mk ((HO1.out).row _ (getD_memD [] hlt))
      have HR2 := Aside0.mk ((HO2.out).row (M'.getD q []) (getD_memD [] (by have := HLM.out; omega)))
      have k0 : wr.cell? ⟨w.heap.size, 0, none⟩ = some (.slice A1 rk.length c1) := (blk_cell (HS.out).box 0).trans rfl
      clear hk hkb hC3 hC4 hl3 hl4 HP hlt hq
      generalize M.getD q [] = row at *
      generalize M'.getD q [] = row' at *
      go_wp2
      clear k0
      go_loopg [48] rk.length (fun gg v48 wi => ∃ f : Nat, f ≤ rk.length ∧ rk.length - f ≤ gg ∧ v48 = .int .i64 f ∧ Aside0 (TX2 w (.slice A1 rk.length c1) (.int .i64 st) (.slice (some ad) M.length c2) (.slice B1 rk'.length d1) (.int .i64 st') (.slice (some bd) M'.length d2) wi) ∧ Aside0 (∀ i, i < f → eq2 (row.getD i []) (row'.getD i []) = true))
      case atStart => exact ⟨0, Nat.zero_le _, Nat.le_refl _, rfl, HS, ⟨fun i hi => absurd hi (Nat.not_lt_zero _)⟩⟩
      case round =>
        clear HS
        obtain ⟨f, hf, hgg, rfl, HS, HP⟩ := hrel
        by_cases hlt : f < rk.length
        · have hltf : (f : Int) < (rk.length : Int) := by omega
          have hltr : (f : Int) < (row.length : Int) := by have := HR1.out; omega
          have hltr' : (f : Int) < (row'.length : Int) := by have := HR2.out; have := congrArg List.length HRE.out; omega
          have hltm' : (q : Int) < (M'.length : Int) := by have := HLM.out; omega
          have HLF := Aside0.mk hlt
          have HKF := Aside0.mk (show wrap64 ((f : Int) + 1) = ((f + 1 : Nat) : Int) by rw [wr_id (by omega) (by have := HN24.out; omega)]; rfl)
          obtain ⟨ad4, A4, c4, e, hk4, hl4, hC4⟩ := at_sl HC3.out f (by have := HR1.out; omega)
          subst e
          obtain ⟨bd4, B4, d4, e, hkb4, hl5, hC5⟩ := at_sl HC4.out f (by omega)
          subst e
          have HF4 := Aside0.mk (show eq2 (row.getD f []) (row'.getD f []) = false → R = false from fun h => HF.out (eqF_at (by have := HR1.out; omega) h))
          have HT4 := Aside0.mk (show eq2 (row.getD f []) (row'.getD f []) = true → ∀ i, i < f + 1 → eq2 (row.getD i []) (row'.getD i []) = true from fun h i hi => by
            rcases Nat.lt_or_ge i f with h2 | h2
            · exact HP.out i h2
            · rw [show i = f by omega]; exact h)
          have HC := Aside0.mk fun W (hW : Below w.heap.size w W) => eqMoves_calls A4 c4 (row.getD f []) B4 d4 (row'.getD f []) W (Kd.C_below hC4 hW) hl4 (Kd.C_below hC5 hW) hl5
          have HK4 := Aside0.mk hk4
          have HKB4 := Aside0.mk hkb4
          clear hk4 hkb4 hC4 hC5 hl4 hl5 HP hlt hf
          generalize row.getD f [] = al at *
          generalize row'.getD f [] = al' at *
          generalize eq2 al al' = v at *
          have HCE := Aside0.mk (fun (W : World) (h : TX2 w (.slice A1 rk.length c1) (.int .i64 st) (.slice (some ad) M.length c2) (.slice B1 rk'.length d1) (.int .i64 st') (.slice (some bd) M'.length d2) W) =>
            (show (W.cell? ⟨w.heap.size, 2, none⟩ = some (.slice (some ad) M.length c2) ∧ W.cell? ⟨w.heap.size + 1, 2, none⟩ = some (.slice (some bd) M'.length d2)) ∧ (W.cell? (ad.add q) = some (.slice (some ad4) row.length c3) ∧ W.cell? (bd.add q) = some (.slice (some bd4) row'.length d3)) ∧ (W.cell? (ad4.add f) = some (.slice A4 al.length c4) ∧ W.cell? (bd4.add f) = some (.slice B4 al'.length d4)) from
              ⟨⟨(blk_cell h.box 2).trans rfl, (blk_cell h.box' 2).trans rfl⟩, ⟨pw_cell_below h.hb HK.out, pw_cell_below h.hb HKB.out⟩, pw_cell_below h.hb HK4.out, pw_cell_below h.hb HKB4.out⟩))
          go_upto_region 9 with (fail)
          have HS0 := Aside0.mk ((HS.out).below (below_drew (Below.refl _ _)))
          cases v with
          | false =>
            have HVV := Aside0.mk (HF4.out rfl)
            go_region_held3 (fun W => (W.cell? ⟨w.heap.size, 2, none⟩ = some (.slice (some ad) M.length c2) ∧ W.cell? ⟨w.heap.size + 1, 2, none⟩ = some (.slice (some bd) M'.length d2)) ∧ (W.cell? (ad.add q) = some (.slice (some ad4) row.length c3) ∧ W.cell? (bd.add q) = some (.slice (some bd4) row'.length d3)) ∧ (W.cell? (ad4.add f) = some (.slice A4 al.length c4) ∧ W.cell? (bd4.add f) = some (.slice B4 al'.length d4)))
              (first | exact HCE.out _ HSa.out | exact HCE.out _ HS0.out | exact HCE.out _ HS.out | fail)
              (first | (go_at_call 68; (with_reducible refine (HC.out _ (HS0.out).hb).mono ?_); rintro E w2 ⟨rfl, hb⟩; have HSa := Aside0.mk ((HS0.out).below hb); clear hb) | fail)
            go_wp2
            go_ret
            exact ⟨by rw [HVV.out]; rfl, (HSa.out).hb⟩
          | true =>
            have HVV := Aside0.mk (HT4.out rfl)
            go_region_held3 (fun W => (W.cell? ⟨w.heap.size, 2, none⟩ = some (.slice (some ad) M.length c2) ∧ W.cell? ⟨w.heap.size + 1, 2, none⟩ = some (.slice (some bd) M'.length d2)) ∧ (W.cell? (ad.add q) = some (.slice (some ad4) row.length c3) ∧ W.cell? (bd.add q) = some (.slice (some bd4) row'.length d3)) ∧ (W.cell? (ad4.add f) = some (.slice A4 al.length c4) ∧ W.cell? (bd4.add f) = some (.slice B4 al'.length d4)))
              (first | exact HCE.out _ HSa.out | exact HCE.out _ HS0.out | exact HCE.out _ HS.out | fail)
              (first | (go_at_call 68; (with_reducible refine (HC.out _ (HS0.out).hb).mono ?_); rintro E w2 ⟨rfl, hb⟩; have HSa := Aside0.mk ((HS0.out).below hb); clear hb) | fail)
            go_wp2
            go_roundg (rk.length - (f + 1))
            case measure => have := HLF.out; omega
            case rel => exact ⟨f + 1, HLF.out, Nat.le_refl _, by rw [HKF.out], HSa, HVV⟩
        · obtain rfl : f = rk.length := by omega
          have HT6 := Aside0.mk (HT.out (eqF_all (by have := HR1.out; have := HR2.out; have := congrArg List.length HRE.out; omega) (fun i hi => HP.out i (by have := HR1.out; omega))))
          clear HP hlt hf hgg
          go_wp2
          go_roundg (M.length - (q + 1))
          case measure => have := HLT.out; omega
          case rel => exact ⟨q + 1, HLT.out, Nat.le_refl _, by rw [HKQ.out], HS, HT6⟩
    · obtain rfl : q = M.length := by omega
      have HVV := Aside0.mk (show R = true by rw [HV.out]; exact eqF_all HLM.out HP.out)
      clear HP hlt hq hgg
      go_wp2
      go_ret
      exact ⟨by rw [HVV.out]; rfl, (HS.out).hb⟩
end Go.Proofs.YtbmcigakiibncaaGreatDoor.H
namespace Go.Proofs.YtbmcigakiibncaaGreatDoor.H
open Go.RowKit Go.Proofs.YtbmcigakiibncaaGreatDoorW.PrintWords Go.Proofs.YtbmcigakiibncaaGreatDoorW.PrintLast Go.Proofs.YtbmcigakiibncaaGreatDoorW.PrintMore
set_option linter.unusedVariables false
set_option linter.unusedSimpArgs false
theorem TX2.cells {w W : World} {x y z x' y' z' : Value} (h : TX2 w x y z x' y' z' W) : (W.cell? ⟨w.heap.size, 0, none⟩ = some x ∧ W.cell? ⟨w.heap.size, 1, none⟩ = some y ∧ W.cell? ⟨w.heap.size, 2, none⟩ = some z) ∧ (W.cell? ⟨w.heap.size + 1, 0, none⟩ = some x' ∧ W.cell? ⟨w.heap.size + 1, 1, none⟩ = some y' ∧ W.cell? ⟨w.heap.size + 1, 2, none⟩ = some z') :=
  ⟨⟨(blk_cell h.box 0).trans rfl, (blk_cell h.box 1).trans rfl, (blk_cell h.box 2).trans rfl⟩, (blk_cell h.box' 0).trans rfl, (blk_cell h.box' 1).trans rfl, (blk_cell h.box' 2).trans rfl⟩
end Go.Proofs.YtbmcigakiibncaaGreatDoor.H
namespace Go.Proofs.YtbmcigakiibncaaGreatDoor.H
open Go.RowKit Go.Proofs.YtbmcigakiibncaaGreatDoorW.PrintWords Go.Proofs.YtbmcigakiibncaaGreatDoorW.PrintLast Go.Proofs.YtbmcigakiibncaaGreatDoorW.PrintMore
set_option linter.unusedVariables false
set_option linter.unusedSimpArgs false
theorem TX.cells {w W : World} {x y z : Value} (h : TX w x y z W) : W.cell? ⟨w.heap.size, 0, none⟩ = some x ∧ W.cell? ⟨w.heap.size, 1, none⟩ = some y ∧ W.cell? ⟨w.heap.size, 2, none⟩ = some z :=
  ⟨(blk_cell h.box 0).trans rfl, (blk_cell h.box 1).trans rfl, (blk_cell h.box 2).trans rfl⟩
theorem sameB_self (rk : List Int) (st : Int) (M : Mv) : sameB rk st M rk st M = auB rk st M := by
  unfold sameB
  rw [(eqI_iff rk rk).2 rfl, (eq4_iff M M).2 rfl]
  cases auB rk st M <;> simp
end Go.Proofs.YtbmcigakiibncaaGreatDoor.H
namespace Go.Proofs.YtbmcigakiibncaaGreatDoor.H
open Go.RowKit Go.Proofs.YtbmcigakiibncaaGreatDoorW.PrintWords Go.Proofs.YtbmcigakiibncaaGreatDoorW.PrintLast Go.Proofs.YtbmcigakiibncaaGreatDoorW.PrintMore
set_option linter.unusedVariables false
set_option linter.unusedSimpArgs false
theorem get_as {t : ByteArray} {e : Int} {rk : List Int} {st : Int} {M : Mv} (h : getR t = (e, rk, st, M)) (w : World) (hm : MX w) :
    Calls Tryz.prog 26 #[.string t] w fun E w' => ∃ A1 c1 A2 c2, E = .returned (.tuple #[.agg #[.slice A1 rk.length c1, .int .i64 st, .slice A2 M.length c2], .int .i64 e]) ∧ Kd.C (Kd.int .i64) w' A1 rk.length rk ∧ rk.length ≤ c1 ∧ Kd.C kA3 w' A2 M.length M ∧ M.length ≤ c2 ∧ Below w.heap.size w w' := by
  have q := get_calls t w hm
  unfold GetE at q
  rw [h] at q
  exact q
theorem put_as {rk : List Int} {st : Int} {M : Mv} {l : List UInt8} {e : Int} (h : putR rk st M = (l, e)) (A1 : Option Addr) (c1 : Nat) (A2 : Option Addr) (c2 : Nat) (w : World)
    (hr : Kd.C (Kd.int .i64) w A1 rk.length rk) (hc1 : rk.length ≤ c1) (hM : Kd.C kA3 w A2 M.length M) :
    Calls Tryz.prog 24 #[.agg #[.slice A1 rk.length c1, .int .i64 st, .slice A2 M.length c2]] w fun E w' => E = .returned (.tuple #[.string ⟨l.toArray⟩, .int .i64 e]) ∧ Below w.heap.size w w' := by
  have q := put_calls rk M st A1 c1 A2 c2 w hr hc1 hM
  unfold PutE at q
  rw [h] at q
  exact q
set_option maxHeartbeats 8000000 in
set_option maxRecDepth 100000 in
theorem autoRound_calls (rk : List Int) (M : Mv) (st : Int) (A1 : Option Addr) (c1 : Nat) (A2 : Option Addr) (c2 : Nat) (s : ByteArray) (w : World)
    (hr : Kd.C (Kd.int .i64) w A1 rk.length rk) (hc1 : rk.length ≤ c1) (hM : Kd.C kA3 w A2 M.length M) (hc2 : M.length ≤ c2) (hm : MX w) (ht : TabD w) :
    Calls Tryz.prog 7 #[.agg #[.slice A1 rk.length c1, .int .i64 st, .slice A2 M.length c2], .string s] w fun E w' => E = .returned (.bool true) ∧ Below w.heap.size w w' := by
  have HI := Aside0.mk fun W (hW : Below w.heap.size w W) => isA_calls rk M st A1 c1 A2 c2 W (Kd.C_below hr hW) hc1 (Kd.C_below hM hW) hc2
  have HP := Aside0.mk fun (l : List UInt8) (e : Int) (h : putR rk st M = (l, e)) W (hW : Below w.heap.size w W) => put_as h A1 c1 A2 c2 W (Kd.C_below hr hW) hc1 (Kd.C_below hM hW)
  have HSA := Aside0.mk fun (B1 : Option Addr) (d1 : Nat) (B2 : Option Addr) (d2 : Nat) W (hW : Below w.heap.size w W) (h1 : Kd.C (Kd.int .i64) W B1 rk.length rk) (h2 : rk.length ≤ d1) (h3 : Kd.C kA3 W B2 M.length M) (h4 : M.length ≤ d2) => rsame_calls rk M st A1 c1 A2 c2 rk M st B1 d1 B2 d2 W (Kd.C_below hr hW) hc1 (Kd.C_below hM hW) hc2 h1 h2 h3 h4
  have HG := Aside0.mk fun (t : ByteArray) (e : Int) (rk : List Int) (st : Int) (M : Mv) (h : getR t = (e, rk, st, M)) W (hW : Below w.heap.size w W) => get_as h W (hm.below hW)
  have HAL := Aside0.mk fun W (hW : Below w.heap.size w W) => alive_calls W (MX.below hm hW) (ht.below hW)
  have HS := Aside0.mk (TX.mk (below_alloc (Below.refl w.heap.size w) (.cells #[.slice A1 rk.length c1, .int .i64 st, .slice A2 M.length c2] 25)) (blk_new w (.cells #[.slice A1 rk.length c1, .int .i64 st, .slice A2 M.length c2] 25)))
  clear hr hc1 hM hc2 hm ht
  go_enter Tryz.func7, Tryz.ntmps7
  go_upto_region 1 with (fail)
  generalize w.alloc (.cells #[.slice A1 rk.length c1, .int .i64 st, .slice A2 M.length c2] 25) = W1 at *
  have k0 : W1.cell? ⟨w.heap.size, 0, none⟩ = some (.slice A1 rk.length c1) := (blk_cell (HS.out).box 0).trans rfl
  have k1 : W1.cell? ⟨w.heap.size, 1, none⟩ = some (.int .i64 st) := (blk_cell (HS.out).box 1).trans rfl
  have k2 : W1.cell? ⟨w.heap.size, 2, none⟩ = some (.slice A2 M.length c2) := (blk_cell (HS.out).box 2).trans rfl
  go_wp2_with fail
  refine (HI.out _ (HS.out).hb).mono ?_
  rintro E W2 ⟨rfl, hb⟩
  have HS2 := Aside0.mk ((HS.out).below hb)
  clear hb HS k0 k1 k2
  go_upto_if 14 with (fail)
  go_cut [] (fun wx => Aside0 (Below w.heap.size w wx))
  case first =>
    cases hau : auB rk st M with
    | false =>
      clear hau
      go_wp2
      go_meet
      exact ⟨(HS2.out).hb⟩
    | true =>
      have HAU := Aside0.mk hau
      clear hau
      have k0 : W2.cell? ⟨w.heap.size, 0, none⟩ = some (.slice A1 rk.length c1) := (blk_cell (HS2.out).box 0).trans rfl
      have k1 : W2.cell? ⟨w.heap.size, 1, none⟩ = some (.int .i64 st) := (blk_cell (HS2.out).box 1).trans rfl
      have k2 : W2.cell? ⟨w.heap.size, 2, none⟩ = some (.slice A2 M.length c2) := (blk_cell (HS2.out).box 2).trans rfl
      by_cases hlen : 65536 < (putL rk st M).length
      · have HPV := Aside0.mk (show putR rk st M = ([], 3) by unfold putR; rw [HAU.out, if_pos rfl, if_pos hlen])
        clear hlen
        go_wp2_with fail
        refine (HP.out _ _ HPV.out _ (HS2.out).hb).mono ?_
        rintro E W3 ⟨rfl, hb⟩
        have HS3 := Aside0.mk ((HS2.out).below hb)
        clear hb HS2 k0 k1 k2
        obtain ⟨⟨e4, rk4, st4, M4⟩, hg4⟩ : ∃ v, getR ⟨#[]⟩ = v := ⟨_, rfl⟩
        have HG4 := Aside0.mk hg4
        clear hg4
        go_wp2_with fail
        refine (HG.out _ _ _ _ _ HG4.out _ (HS3.out).hb).mono ?_
        rintro E W4 ⟨B1, d1, B2, d2, rfl, hr4, hd1, hM4, hd2, hb⟩
        have HS4 := Aside0.mk ((HS3.out).below hb)
        clear hb HS3 hr4 hd1 hM4 hd2
        go_upto_region 4 with (fail)
        have HS5 := Aside0.mk ((HS4.out).below (below_alloc (Below.refl W4.heap.size W4) (.cells #[.slice B1 rk4.length d1, .int .i64 st4, .slice B2 M4.length d2] 25)))
        generalize W4.alloc (.cells #[.slice B1 rk4.length d1, .int .i64 st4, .slice B2 M4.length d2] 25) = W5 at *
        go_wp2_with fail
        go_meet
        exact ⟨(HS5.out).hb⟩
      · have HPV := Aside0.mk (show putR rk st M = (putL rk st M, 0) by unfold putR; rw [HAU.out, if_pos rfl, if_neg hlen])
        have HRV := Aside0.mk (round_put HAU.out (by omega))
        clear hlen
        generalize putL rk st M = l at *
        go_wp2_with fail
        refine (HP.out _ _ HPV.out _ (HS2.out).hb).mono ?_
        rintro E W3 ⟨rfl, hb⟩
        have HS3 := Aside0.mk ((HS2.out).below hb)
        clear hb HS2 k0 k1 k2
        go_wp2_with fail
        refine (HG.out _ _ _ _ _ HRV.out _ (HS3.out).hb).mono ?_
        rintro E W4 ⟨B1, d1, B2, d2, rfl, hr4, hd1, hM4, hd2, hb⟩
        have HS4 := Aside0.mk ((HS3.out).below hb)
        have ha := below_alloc (Below.refl W4.heap.size W4) (.cells #[.slice B1 rk.length d1, .int .i64 st, .slice B2 M.length d2] 25)
        have HS5 := Aside0.mk ((HS4.out).below ha)
        have HX5 := Aside0.mk (blk_new W4 (.cells #[.slice B1 rk.length d1, .int .i64 st, .slice B2 M.length d2] 25))
        have HSB := Aside0.mk (HSA.out B1 d1 B2 d2 _ (HS5.out).hb (Kd.C_below hr4 ha) hd1 (Kd.C_below hM4 ha) hd2)
        rw [sameB_self, HAU.out] at HSB
        clear hb HS3 hr4 hd1 hM4 hd2 ha
        go_upto_region 4 with (fail)
        generalize W4.alloc (.cells #[.slice B1 rk.length d1, .int .i64 st, .slice B2 M.length d2] 25) = W5 at *
        generalize W4.heap.size = b4 at *
        have k0 : W5.cell? ⟨w.heap.size, 0, none⟩ = some (.slice A1 rk.length c1) := (blk_cell (HS5.out).box 0).trans rfl
        have k1 : W5.cell? ⟨w.heap.size, 1, none⟩ = some (.int .i64 st) := (blk_cell (HS5.out).box 1).trans rfl
        have k2 : W5.cell? ⟨w.heap.size, 2, none⟩ = some (.slice A2 M.length c2) := (blk_cell (HS5.out).box 2).trans rfl
        have k3 : W5.cell? ⟨b4, 0, none⟩ = some (.slice B1 rk.length d1) := (blk_cell HX5.out 0).trans rfl
        have k4 : W5.cell? ⟨b4, 1, none⟩ = some (.int .i64 st) := (blk_cell HX5.out 1).trans rfl
        have k5 : W5.cell? ⟨b4, 2, none⟩ = some (.slice B2 M.length d2) := (blk_cell HX5.out 2).trans rfl
        go_wp2_with fail
        refine (HSB.out).mono ?_
        rintro E W6 ⟨rfl, hb⟩
        have HS6 := Aside0.mk ((HS5.out).below hb)
        clear hb HS5
        go_wp2_with fail
        go_meet
        exact ⟨(HS6.out).hb⟩
  case rest =>
    have HB := Aside0.mk hcut.out
    clear hcut HS2 HI HP HSA
    obtain ⟨⟨e4, rk4, st4, M4⟩, hg4⟩ : ∃ v, getR s = v := ⟨_, rfl⟩
    have HG4 := Aside0.mk hg4
    clear hg4
    go_wp2_with fail
    refine (HG.out _ _ _ _ _ HG4.out _ HB.out).mono ?_
    rintro E W4 ⟨B1, d1, B2, d2, rfl, hr4, hd1, hM4, hd2, hb⟩
    have ha := below_alloc (Below.refl W4.heap.size W4) (.cells #[.slice B1 rk4.length d1, .int .i64 st4, .slice B2 M4.length d2] 25)
    have HX5 := Aside0.mk (blk_new W4 (.cells #[.slice B1 rk4.length d1, .int .i64 st4, .slice B2 M4.length d2] 25))
    have HB5 := Aside0.mk (below_then (below_then HB.out (HB.out).size hb) (below_then HB.out (HB.out).size hb).size ha)
    have HR5 := Aside0.mk (Kd.C_below hr4 ha)
    have HM5 := Aside0.mk (Kd.C_below hM4 ha)
    have HD1 := Aside0.mk hd1
    clear ha hb hr4 hd1 hM4 hd2
    go_upto_region 7 with (fail)
    generalize W4.alloc (.cells #[.slice B1 rk4.length d1, .int .i64 st4, .slice B2 M4.length d2] 25) = W5 at *
    generalize W4.heap.size = b4 at *
    cases q1 : (e4 != 0) with
    | true =>
      go_wp2_with fail
      refine (HAL.out _ HB5.out).mono ?_
      rintro E W6 ⟨rfl, hb⟩
      have HB6 := Aside0.mk (below_then HB5.out (HB5.out).size hb)
      clear hb
      go_wp2
      go_ret
      exact ⟨rfl, HB6.out⟩
    | false =>
      obtain rfl : e4 = 0 := by simpa using q1
      clear q1
      have HGR := Aside0.mk (get_round HG4.out)
      have HPC := Aside0.mk (put_as (HGR.out).2.1 B1 d1 B2 d2 W5 HR5.out HD1.out HM5.out)
      rw [Lib.mk_data] at HPC
      have k3 : W5.cell? ⟨b4, 0, none⟩ = some (.slice B1 rk4.length d1) := (blk_cell HX5.out 0).trans rfl
      have k4 : W5.cell? ⟨b4, 1, none⟩ = some (.int .i64 st4) := (blk_cell HX5.out 1).trans rfl
      have k5 : W5.cell? ⟨b4, 2, none⟩ = some (.slice B2 M4.length d2) := (blk_cell HX5.out 2).trans rfl
      go_wp2_with fail
      refine (HPC.out).mono ?_
      rintro E W6 ⟨rfl, hb⟩
      have HB6 := Aside0.mk (below_then HB5.out (HB5.out).size hb)
      clear hb k3 k4 k5
      go_wp2_with fail
      refine (HAL.out _ HB6.out).mono ?_
      rintro E W7 ⟨rfl, hb⟩
      have HB7 := Aside0.mk (below_then HB6.out (HB6.out).size hb)
      clear hb
      go_wp2
      go_ret
      exact ⟨rfl, HB7.out⟩
end Go.Proofs.YtbmcigakiibncaaGreatDoor.H
namespace Go.Proofs.YtbmcigakiibncaaGreatDoor.H
open Go.ChangeShapes Go.WideShapes Go.ChangeAt Go.RowKit Go.Deep Go.Proofs.YtbmcigakiibncaaGreatDoorW.PrintWords Go.Proofs.YtbmcigakiibncaaGreatDoorW.PrintLast Go.Proofs.YtbmcigakiibncaaGreatDoorW.PrintMore
open Go.Proofs.YtbmcigakiibncaaGreatDoor.Q (S28 k28 S83 k83)
set_option linter.unusedVariables false
set_option maxRecDepth 100000
def Opens {α : Type} (P : Program) (t : TypeId) (d : Kd α) (W : α → Prop) : Prop :=
  ∀ {H : Type} (enc : TypeId × Value → H) (w : World) (base : Nat) (held : Bool) (fuel : Nat) (cs : List Value) (x : DataW H × List MemPlace),
    DataW.trod enc P w base (fun _ => true) held fuel t cs = some x → ∃ a : α, d.K w a cs ∧ W a
theorem opens_int {P : Program} {t : TypeId} {k : IntKind} (ht : P.underlying t = some (.int k)) : Opens P t (Kd.int k) (fun a => (Lit.int k a).wf = true) := by
  intro H enc w base held fuel cs x h
  obtain ⟨n, rfl, _, hw⟩ := DataW.trod_int ht h
  exact ⟨n, rfl, hw⟩
theorem choose_list {α : Type} {p : Nat → α → Prop} {n : Nat} (h : ∀ i, i < n → ∃ y, p i y) : ∃ xs : List α, xs.length = n ∧ ∀ i y, xs[i]? = some y → p i y := by
  induction n with
  | zero => exact ⟨[], rfl, fun i y h => by simp at h⟩
  | succ n ih =>
    obtain ⟨xs, h1, h2⟩ := ih (fun i hi => h i (by omega))
    obtain ⟨y, hy⟩ := h n (by omega)
    refine ⟨xs ++ [y], by simp [h1], fun i z hz => ?_⟩
    rcases Nat.lt_or_ge i xs.length with hi | hi
    · rw [List.getElem?_append_left hi] at hz
      exact h2 i z hz
    · rw [List.getElem?_append_right hi] at hz
      have h3 : i - xs.length = 0 := by
        rcases Nat.eq_zero_or_pos (i - xs.length) with h | h
        · exact h
        · rw [List.getElem?_eq_none (by simp; omega)] at hz; cases hz
      rw [h3] at hz
      obtain rfl : y = z := by simpa using hz
      rw [show i = n from by omega]
      exact hy
theorem opens_slice {α : Type} {P : Program} {t e : TypeId} {d : Kd α} {W : α → Prop} (ht : P.underlying t = some (.slice e)) (hsz : P.cellsOf e = d.sz) (ho : Opens P e d W) : Opens P t (Kd.slice e d) (fun xs => ∀ x ∈ xs, W x) := by
  intro H enc w base held fuel cs x h
  rcases open_slice ht h with ⟨rfl, _⟩ | ⟨a, len, cap, m, n, D, Pl, rfl, _, hl, hm, hmm, _, hx⟩
  · exact ⟨[], ⟨none, 0, rfl, Nat.le_refl _, rfl, by simp, fun h0 => absurd h0 (by simp)⟩, by simp⟩
  · have hmm' : m = cap := by simpa using hmm
    have each : ∀ i, i < len → ∃ y : α, ∃ cs', w.cells? base (a.add (i * P.cellsOf e)) (P.cellsOf e) = some cs' ∧ d.K w y cs' ∧ W y := by
      intro i hi
      obtain ⟨cs', h1, h2⟩ := hx i (by omega)
      obtain ⟨y, hy, hw⟩ := ho enc w base held n cs' _ h2
      exact ⟨y, cs', h1, hy, hw⟩
    obtain ⟨xs, hxl, hxs⟩ := choose_list each
    refine ⟨xs, ⟨some a, cap, by rw [hxl], by omega, rfl, ?_, fun _ => ⟨a, rfl, fun j p hj => ?_⟩⟩, fun y hy => ?_⟩
    · have : maxLen = 9223372036854775807 := rfl
      omega
    · obtain ⟨cs', h1, h2, _⟩ := hxs j p hj
      obtain ⟨_, hlen, hcell⟩ := World.cells?_some h1
      refine ⟨cs', d.K_len h2, h2, fun i u hu => ?_⟩
      have hi : i < cs'.length := (List.getElem?_eq_some_iff.1 hu).1
      have h3 := hcell i (by omega)
      rw [Go.Deep.add_add, hsz] at h3
      rw [h3]; exact hu
    · obtain ⟨j, hj, rfl⟩ := List.getElem_of_mem hy
      obtain ⟨_, _, _, h3⟩ := hxs j _ (List.getElem?_eq_getElem hj)
      exact h3
theorem open_row {α H : Type} {enc : TypeId × Value → H} {P : Program} {t e : TypeId} {d : Kd α} {W : α → Prop} {w : World} {base fuel : Nat} {held : Bool} {v : Value} {x : DataW H × List MemPlace} (ht : P.underlying t = some (.slice e)) (hsz : P.cellsOf e = d.sz) (ho : Opens P e d W)
    (h : DataW.trod enc P w base (fun _ => true) held fuel t [v] = some x) : ∃ A c xs, v = .slice A xs.length c ∧ xs.length ≤ c ∧ d.C w A xs.length xs ∧ ∀ y ∈ xs, W y := by
  obtain ⟨xs, ⟨A, c, hv, hc, hC⟩, hW⟩ := opens_slice ht hsz ho enc w base held fuel [v] x h
  exact ⟨A, c, xs, by simpa using hv, hc, hC, hW⟩
theorem opens_need : Opens Tryz.prog 83 k83 (fun _ => True) := by
  intro H enc w base held fuel cs x h
  obtain ⟨y0, y1, n, rfl, hl, h0, h1⟩ := trod_struct2 Tryz.underlying83 h
  have o0 : (Tryz.prog.cellsOf 3) = 1 := by kernel_rfl
  have o2 : (Tryz.prog.cellsOf 83) = 2 := by kernel_rfl
  rw [o2] at hl
  match cs, hl with
  | [c0, c1], _ =>
    simp only [o0] at h0 h1
    obtain ⟨s, e0, _, _⟩ := DataW.trod_int Tryz.underlying3 h0
    obtain ⟨t, e1, _, _⟩ := DataW.trod_int Tryz.underlying3 h1
    obtain rfl : c0 = .int .i64 s := by simpa using e0
    obtain rfl : c1 = .int .i64 t := by simpa using e1
    exact ⟨⟨s, t⟩, Q.k83_mk w ⟨s, t⟩, trivial⟩
theorem opens_moves : Opens Tryz.prog 23 (Kd.slice 65 kA3) (fun _ => True) := by
  intro H enc w base held fuel cs x h
  obtain ⟨a, h1, _⟩ := opens_slice (e := 65) Tryz.underlying23 (by kernel_rfl) (opens_slice (e := 66) Tryz.underlying65 (by kernel_rfl) (opens_slice (e := 69) Tryz.underlying66 (by kernel_rfl) (opens_slice (e := 83) Tryz.underlying69 (by kernel_rfl) opens_need))) enc w base held fuel cs x h
  exact ⟨a, h1, trivial⟩
theorem open_kids {H : Type} {enc : TypeId × Value → H} {w : World} {base fuel : Nat} {held : Bool} {cs : List Value} {x : DataW H × List MemPlace} (h : DataW.trod enc Tryz.prog w base (fun _ => true) held fuel 26 cs = some x)
    (each : ∀ (fuel : Nat) (cs : List Value) (y : DataW H × List MemPlace), SizeOf.sizeOf y.1 < SizeOf.sizeOf x.1 → DataW.trod enc Tryz.prog w base (fun _ => true) held fuel 28 cs = some y → ∃ t : S28, k28.K w t cs) :
    ∃ (A : Option Addr) (c : Nat) (l : List S28), cs = [.slice A l.length c] ∧ l.length ≤ c ∧ k28.C w A l.length l := by
  rcases open_slice Tryz.underlying26 h with ⟨rfl, _⟩ | ⟨a, len, cap, m, n, D, Pl, rfl, _, hl, hm, hmm, hxe, hx⟩
  · exact ⟨none, 0, [], rfl, Nat.le_refl _, rfl, by simp, fun h0 => absurd h0 (by simp)⟩
  · have hmm' : m = cap := by simpa using hmm
    have hel : ∀ i, i < len → ∃ t : S28, ∃ cs', w.cells? base (a.add (i * Tryz.prog.cellsOf 28)) (Tryz.prog.cellsOf 28) = some cs' ∧ k28.K w t cs' := by
      intro i hi
      obtain ⟨cs', h1, h2⟩ := hx i (by omega)
      have hlt : SizeOf.sizeOf (D i) < SizeOf.sizeOf x.1 := by
        rw [hxe]
        have hmem : D i ∈ (List.range len).map D := List.mem_map.2 ⟨i, List.mem_range.2 hi, rfl⟩
        have := List.sizeOf_lt_of_mem hmem
        simp only [DataW.slice.sizeOf_spec]
        omega
      obtain ⟨t, ht⟩ := each n cs' _ hlt h2
      exact ⟨t, cs', h1, ht⟩
    obtain ⟨xs, hxl, hxs⟩ := choose_list hel
    have c28 : Tryz.prog.cellsOf 28 = 2 := by kernel_rfl
    refine ⟨some a, cap, xs, by rw [hxl], by omega, rfl, ?_, fun _ => ⟨a, rfl, fun j p hj => ?_⟩⟩
    · have : maxLen = 9223372036854775807 := rfl
      omega
    · obtain ⟨cs', h1, h2⟩ := hxs j p hj
      obtain ⟨_, hlen, hcell⟩ := World.cells?_some h1
      refine ⟨cs', k28.K_len h2, h2, fun i u hu => ?_⟩
      have hi : i < cs'.length := (List.getElem?_eq_some_iff.1 hu).1
      have h3 := hcell i (by omega)
      rw [Go.Deep.add_add, c28] at h3
      rw [show k28.sz = 2 from rfl, h3]; exact hu
theorem open_tree {H : Type} {enc : TypeId × Value → H} {w : World} {base : Nat} {held : Bool} (N : Nat) : ∀ (fuel : Nat) (cs : List Value) (x : DataW H × List MemPlace), SizeOf.sizeOf x.1 ≤ N → DataW.trod enc Tryz.prog w base (fun _ => true) held fuel 28 cs = some x → ∃ t : S28, k28.K w t cs := by
  induction N with
  | zero =>
    intro fuel cs x hN
    have : 0 < SizeOf.sizeOf x.1 := by cases x.1 <;> simp <;> omega
    omega
  | succ N ih =>
    intro fuel cs x hN h
    obtain ⟨y0, y1, n, rfl, hl, h0, h1⟩ := trod_struct2 Tryz.underlying28 h
    have o0 : (Tryz.prog.cellsOf 3) = 1 := by kernel_rfl
    have o1 : (Tryz.prog.cellsOf 26) = 1 := by kernel_rfl
    have o2 : (Tryz.prog.cellsOf 28) = 2 := by kernel_rfl
    rw [o2] at hl
    match cs, hl with
    | [c0, c1], _ =>
      simp only [o0, o1] at h0 h1
      obtain ⟨s, e0, _, _⟩ := DataW.trod_int Tryz.underlying3 h0
      obtain ⟨A, c, l, e1, hlc, hC⟩ := open_kids h1 (fun fuel cs y hy hh => ih fuel cs y (by simp only [DataW.agg.sizeOf_spec, List.cons.sizeOf_spec, List.nil.sizeOf_spec] at hN; omega) hh)
      obtain rfl : c0 = .int .i64 s := by simpa using e0
      obtain rfl : c1 = .slice A l.length c := by simpa using e1
      exact ⟨⟨s, l⟩, Q.k28_mk w ⟨s, l⟩ hlc hC⟩
theorem arg_tree {H : Type} {enc : TypeId × Value → H} {w : World} {base : Nat} {held : Bool} {v : Value} {d : DataW H} {p : List MemPlace} (hv : Value.okWide Tryz.prog w .any base 28 v) (h : DataW.Trod enc Tryz.prog w 0 (fun _ => true) held 28 v d p) :
    ∃ (t : S28) (A : Option Addr) (c : Nat), v = .agg #[.int .i64 t.f0, .slice A t.f1.length c] ∧ t.f1.length ≤ c ∧ k28.C w A t.f1.length t.f1 := by
  obtain ⟨x3, y3, _, _, n3, rfl, _, _, a3, b3⟩ := Go.Joins.open_agg2 Tryz.underlying28 (by kernel_rfl) (by kernel_rfl) hv h
  obtain ⟨s3, he3, _, we3⟩ := DataW.trod_int Tryz.underlying3 a3
  obtain rfl : x3 = .int .i64 s3 := by simpa using he3
  obtain ⟨A3, cc3, l3, hy3, hl3, hC3⟩ := open_kids b3 (fun fuel cs y hy hh => open_tree _ fuel cs y (Nat.le_refl _) hh)
  obtain rfl : y3 = .slice A3 l3.length cc3 := by simpa using hy3
  exact ⟨⟨s3, l3⟩, A3, cc3, rfl, hl3, hC3⟩
theorem arg_auto {H : Type} {enc : TypeId × Value → H} {w : World} {base : Nat} {held : Bool} {v : Value} {d : DataW H} {p : List MemPlace} (hv : Value.okWide Tryz.prog w .any base 25 v) (h : DataW.Trod enc Tryz.prog w 0 (fun _ => true) held 25 v d p) :
    ∃ (rk : List Int) (st : Int) (M : Mv) (A1 : Option Addr) (c1 : Nat) (A2 : Option Addr) (c2 : Nat), v = .agg #[.slice A1 rk.length c1, .int .i64 st, .slice A2 M.length c2] ∧ rk.length ≤ c1 ∧ Kd.C (Kd.int .i64) w A1 rk.length rk ∧ M.length ≤ c2 ∧ Kd.C kA3 w A2 M.length M ∧ (Lit.int .i64 st).wf = true ∧ ∀ x ∈ rk, (Lit.int .i64 x).wf = true := by
  obtain ⟨x0, y0, z0, _, _, _, n0, rfl, _, _, a0, b0, c0⟩ := Go.Joins.open_agg3 Tryz.underlying25 (by kernel_rfl) (by kernel_rfl) hv h
  obtain ⟨A1, c1, rk, rfl, hl1, hC1, hw1⟩ := open_row (d := Kd.int .i64) Tryz.underlying22 (by kernel_rfl) (opens_int Tryz.underlying3) a0
  obtain ⟨st, hs, _, ws⟩ := DataW.trod_int Tryz.underlying3 b0
  obtain rfl : y0 = .int .i64 st := by simpa using hs
  obtain ⟨M, ⟨A2, c2, e2, hl2, hC2⟩, _⟩ := opens_moves enc _ _ _ _ _ _ c0
  obtain rfl : z0 = .slice A2 M.length c2 := by simpa using e2
  exact ⟨rk, st, M, A1, c1, A2, c2, rfl, hl1, hC1, hl2, hC2, ws, hw1⟩
theorem own : ownKnob Tryz.prog.godebug = none := by kernel_rfl
theorem laidOut : laidOutB Tryz.prog = true := by kernel_rfl
theorem g64 : Tryz.prog.globalNamed "math/bits.deBruijn64tab" = some 1 := by kernel_rfl
theorem t64 : (Tryz.prog.globals[1]?).map (·.type) = some 156 := by kernel_rfl
abbrev laid7 : List (String × DataW Unit) := [("math/bits.deBruijn32tab", Rows.laid_math_bits_deBruijn32tab), ("math/bits.deBruijn64tab", Rows.laid_math_bits_deBruijn64tab), ("internal/strconv.uint64pow10", Rows.laid_internal_strconv_uint64pow10), ("unicode/utf8.acceptRanges", Rows.laid_unicode_utf8_acceptRanges), ("strconv.ErrRange", Rows.laid_strconv_ErrRange), ("strconv.ErrSyntax", Rows.laid_strconv_ErrSyntax), ("unicode/utf8.first", Rows.laid_unicode_utf8_first)]
theorem mx_of_shaped {w : World} (h : w.ShapedOpen Tryz.prog) : MX w :=
  Go.Proofs.cell_of_shapedOpen_int (g := 2) (t := 3) (zero := #[.int .i64 0]) h (of_decide_eq_true (by kernel_rfl)) (by kernel_rfl) rfl (by kernel_rfl) (by kernel_rfl) Tryz.underlying3
theorem tabD_of_laid {W : World} (h : laidMetH Tryz.prog laid7 W) : TabD W := by
  rw [MakeChecks.laidMetH_plain _ _ _ (by kernel_rfl)] at h
  obtain ⟨ps, ⟨g0, t0, cs0, f0, p0, q0, hg0, ht0, hv0, hd0, ⟨g1, t1, cs1, f1, p1, q1, hg1, ht1, hv1, hd1, _, _⟩, _⟩, _, _⟩ := h
  obtain rfl := Option.some.inj (g64.symm.trans hg1)
  obtain rfl := Option.some.inj (t64.symm.trans ht1)
  obtain ⟨xs, m1, rfl, hx1, hlen, hn, hel⟩ := DataW.trod_array Tryz.underlying156 hd1
  have c5 : Tryz.prog.cellsOf 5 = 1 := by kernel_rfl
  simp only [Prod.mk.injEq] at hx1
  have hxe := hx1.1
  intro i hi
  have h1 := hel i hi
  rw [c5, Nat.mul_one] at h1
  cases hxi : xs[i]? with
  | none =>
    have := List.getElem?_eq_none_iff.1 hxi
    omega
  | some x =>
    rw [hxi] at h1
    obtain ⟨n, e1, e2, _⟩ := DataW.trod_int Tryz.underlying5 h1
    have hc := World.var?_cell hg1 hv1 i
    rw [hc, ← Array.getElem?_toList]
    have h3 := congrArg (·[0]?) e1
    have h4 : cs1.toList[i]? = some (.int .u8 n) := by simpa [List.getElem?_take, List.getElem?_drop] using h3
    rw [h4]
    have h5 : (xs.map (·.1))[i]? = some (.lit (.int .u8 n)) := by rw [List.getElem?_map, hxi]; simp [e2]
    have h6 : (xs.map (·.1)) = Lib.deBruijn64tab.map fun (n : Nat) => (.lit (.int .u8 (n : Int)) : DataW Unit) := by
      first | exact (DataW.agg.inj hxe).symm | exact DataW.agg.inj hxe
    rw [h6, List.getElem?_map] at h5
    have h7 : i < Lib.deBruijn64tab.length := by rw [show Lib.deBruijn64tab.length = 64 from rfl]; exact hi
    rw [List.getElem?_eq_getElem h7] at h5
    have h8 : ((Lib.deBruijn64tab[i] : Nat) : Int) = n := by simpa using h5
    rw [List.getD, List.getElem?_eq_getElem h7]
    simp [h8]
theorem handed_and_shaped {H : Type} {enc : TypeId × Value → H} {a : Assume} {C : Checked} {os : Os} {f : FuncId} {fn : Func} {s : ChangeSpec} {conds : List PathCond} {apart fresh handsOn again : Bool} {X : World → Array Value → Prop}
    (hX : ∀ (w w' : World) (args : Array Value), w.heap = w'.heap → X w args → X w' args)
    (own : ownKnob C.prog.godebug = none) (started : os.Started) (noInit : C.prog.inits.idxOf? f = none) (hfn : C.prog.funcs[f]? = some fn)
    (witness : ∃ (w : World) (tape : Tape) (i : Input), w.os = os ∧ (w.forCall tape i).Shaped C.prog ∧ i.vars = [] ∧ Input.okWide C.prog (w.forCall tape i) .any w.heap.size f i ∧
      ((s.pre enc C.prog fn conds apart (w.forCall tape i).memory i.args ∧ X (w.forCall tape i).memory i.args) ∧ sizedMet enc C.prog fn (OpenSpec.ofChange s) apart (w.forCall tape i).memory i.args) ∧ a.holds C.prog (lone (Frame.enter C.prog f i.args .normal) [] (w.forCall tape i)))
    (contract : ∀ (W : World) (base : Nat) (args : Array Value) (ds gs : List (DataW H)) (before : List MemPlace),
      (∀ (j : Nat) t v, fn.params[j]? = some t → args[j]? = some v → Value.okWide C.prog W .any base t v) →
      DataW.Whole enc C.prog fn.params.toList s.vars apart W args.toList ds gs before →
      conds.all (PathCond.test C.prog ⟨fn.params.toList, ds, s.plain.varTypes C.prog, gs⟩) = true →
      X W args → W.ShapedOpen C.prog →
      Calls C.prog f args W fun e W' => ∃ v, e = .returned v ∧ s.post enc C.prog fn apart fresh handsOn again W args v W') :
    ReturnsInHanded a C os f .any (fun w args => (s.pre enc C.prog fn conds apart w args ∧ X w args) ∧ sizedMet enc C.prog fn (OpenSpec.ofChange s) apart w args) (s.post enc C.prog fn apart fresh handsOn again) := by
  refine returnsInHanded_of_calls own started noInit witness ?_
  intro w tape i _ hsh _ hok hpre hholds
  obtain ⟨_, _, _, fn', hfn', _, _, _, _, hval⟩ := hok
  have e : fn' = fn := Option.some.inj (hfn'.symm.trans hfn)
  subst e
  obtain ⟨⟨⟨ds, gs, before, hw, hc⟩, hx⟩, hz⟩ := hpre
  have hw' := DataW.Whole.of_heap (w' := w.forCall tape i) (by rfl) hw
  refine (contract (w.forCall tape i) w.heap.size i.args ds gs before hval hw' hc (hX _ _ _ (by rfl) hx) hsh).mono fun e W' ⟨v, he, hp⟩ => ?_
  subst he
  exact ChangeSpec.post_blind hp
end Go.Proofs.YtbmcigakiibncaaGreatDoor.H
