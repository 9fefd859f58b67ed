/- What schemeOwn_calls, handed_and_shaped, own, laidOut, laid7, mx_of_shaped, arg_scheme needs, out of my texts, by a program (slim.py). -/
import Derived.Test.YthflpbgloeimfaaGreatDoorSO2
namespace Go.Proofs.YthflpbgloeimfaaGreatDoor.H
open Go.RowKit Go.Proofs.YthflpbgloeimfaaGreatDoorW.PrintWords Go.Proofs.YthflpbgloeimfaaGreatDoorW.PrintLast Go.Proofs.YthflpbgloeimfaaGreatDoorW.PrintMore
open Go.Proofs.YthflpbgloeimfaaGreatDoor.Q (S47 k47 rd_T47 z47 at_T47 S50 k50 rd_T50 z50 at_T50 S52 k52 S71 k71 rd_T71)
attribute [local go_sem] max2_int min2_int max_two min_two max_three min_three max_four min_four
set_option linter.unusedVariables false
set_option linter.unusedSimpArgs false
theorem blk_at2 (w : World) (o o' : Obj) : ((w.alloc o).alloc o').heap[w.heap.size + 1]? = some o' := by
 have h := aU_ (w.alloc o) o'
 rwa [show (w.alloc o).heap.size = w.heap.size + 1 from by simp] at h
theorem grown_setCell (W : World) (p : Addr) (u : Value) : W.grownBy (W.setCell p u) (some p.block) :=
 ⟨rfl, rfl, rfl, by simp [World.setCell], fun i _ hne => Below.heap_setCell W p u i (fun e => hne (by rw [e]))⟩
theorem gtrans {W W1 W2 : World} {row : Option Nat} (h : W.grownBy W1 row) (h2 : W1.grownBy W2 row) : W.grownBy W2 row := ⟨h2.os.trans h.os, h2.tape.trans h.tape, h2.output.trans h.output, Nat.le_trans h.size h2.size, fun i hi hne => (h2.block i (l12_ hi h.size) hne).trans (h.block i hi hne)⟩
theorem below_of_grown {w W W1 : World} {p : Nat} (h : Below w.heap.size w W) (hp : w.heap.size ≤ p) (hg : W.grownBy W1 (some p)) : Below w.heap.size w W1 := pw_below_grown h (some p) h.size hg (fun k hk => by cases hk; exact hp)
def sMeas (t : S47) (p : Nat) (left : Int) (W : World) (E : Ending) (W' : World) : Prop := ∃ d lv : Int, E = .returned (.int .i64 d) ∧ W'.heap[p]? = some (.cells #[.int .i64 lv] 3 (0, 0)) ∧ ((sN t : Int) ≤ left → d = (sD t : Int) ∧ lv = left - sN t) ∧ (¬ (sN t : Int) ≤ left → lv < 0) ∧ -1 ≤ lv ∧ W.grownBy W' (some p)
set_option maxHeartbeats 4000000 in
set_option maxRecDepth 100000 in
theorem smeas_calls (w0 : World) (p : Nat) (hp : w0.heap.size ≤ p) (N : Nat) : ∀ (t : S47), sN t ≤ N → ∀ (A : Option Addr) (c : Nat) (left : Int) (W : World), Kd.C k47 w0 A t.f0.length t.f0 → t.f0.length ≤ c → Below w0.heap.size w0 W → W.heap[p]? = some (.cells #[.int .i64 left] 3 (0, 0)) → 0 ≤ left → left ≤ 60 →
  Calls Tryz.prog 120 #[.agg #[.slice A t.f0.length c], .pointer (some ⟨p, 0, none⟩)] W (sMeas t p left W) := by
 induction N with
 | zero => intro t h; have := sN_pos t; omega
 | succ N ih =>
  intro t hN A c left W hC hc hB hP hl0 hl2
  obtain ⟨l⟩ := t
  rw [sN] at hN
  have hpW := blk_lt hP
  have HLEN := mk0 hC.2.1
  have HC := mk0 hC
  have IH := mk0 ih
  have HG1 := mk0 (World.grownBy_alloc W (.cells #[.slice A l.length c] 47) (some p))
  have HP1 := mk0 (aD_ hP (.cells #[.slice A l.length c] 47))
  have HX1 := mk0 (aU_ W (.cells #[.slice A l.length c] 47))
  have HB0 := mk0 hB
  have HD := mk0 (show sNL l ≤ N ∧ 0 ≤ left ∧ left ≤ 60 from ⟨by omega, hl0, hl2⟩)
  have hq0 : (W.alloc (.cells #[.slice A l.length c] 47)).cell? ⟨p, 0, none⟩ = some (.int .i64 left) := (aC_ HP1.out 0).trans rfl
  have hq1 : (W.alloc (.cells #[.slice A l.length c] 47)).frozen? ⟨p, 0, none⟩ = false := aJ_ HP1.out 0
  clear hC ih hP hB hN hl0 hl2
  go_enter Tryz.func120, Tryz.ntmps120
  go_upto_region 1 with (fail)
  generalize (W.alloc (.cells #[.slice A l.length c] 47)) = W1 at *
  go_upto_region 2 with (fail)
  rw [wr_id (x := left - 1) (by have := HD.out; omega) (by have := HD.out; omega)]
  have hnp : W.heap.size ≠ p := by omega
  have HG2 := mk0 (gtrans HG1.out (grown_setCell W1 ⟨p, 0, none⟩ (.int .i64 (left - 1))))
  have HP2 := mk0 (show (W1.setCell ⟨p, 0, none⟩ (.int .i64 (left - 1))).heap[p]? = some (.cells #[.int .i64 (left - 1)] 3 (0, 0)) from blk_set HP1.out 0 (.int .i64 (left - 1)))
  have HX2 := mk0 (aT_ (p := ⟨p, 0, none⟩) HX1.out hnp (.int .i64 (left - 1)))
  clear hq0 hq1 HG1 HP1 HX1
  generalize (W1.setCell ⟨p, 0, none⟩ (.int .i64 (left - 1))) = W2 at *
  have hb0 : W2.cell? ⟨W.heap.size, 0, none⟩ = some (.slice A l.length c) := (aC_ HX2.out 0).trans rfl
  go_wp2
  clear hb0
  go_loopg [5, 16] l.length (fun gg v5 v16 wi => ∃ (m lv : Int) (j : Nat), j ≤ l.length ∧ l.length - j ≤ gg ∧ v5 = .int .i64 m ∧ v16 = .int .i64 j ∧ Aside0 (W.grownBy wi (some p)) ∧ Aside0 (wi.heap[p]? = some (.cells #[.int .i64 lv] 3 (0, 0))) ∧
   Aside0 ((1 + (sNL (l.take j) : Int) ≤ left → m = (sDL (l.take j) : Int) ∧ lv = left - 1 - sNL (l.take j)) ∧ (¬ 1 + (sNL (l.take j) : Int) ≤ left → lv < 0) ∧ -1 ≤ lv ∧ lv ≤ 60))
  case atStart => exact ⟨0, left - 1, 0, by omega, by omega, rfl, rfl, HG2, HP2, ⟨fun _ => ⟨by rw [List.take_zero, sDL]; rfl, by rw [List.take_zero, sNL]; simp⟩, fun h => by rw [List.take_zero, sNL] at h; simp at h; omega, by have := HD.out; omega, by have := HD.out; omega⟩⟩
  case round =>
   clear HG2 HP2 HX2
   obtain ⟨m, lv, j, hj, hgg, rfl, rfl, HG, HP, HM⟩ := hrel
   by_cases hlt : j < l.length
   ·have hltz : (j : Int) < (l.length : Int) := by omega
    have HBr := mk0 (pw_below_grown HB0.out (some p) (HB0.out).size HG.out (fun k hk => by cases hk; exact hp))
    obtain ⟨ad, A1, c1, e, hx0, hl1, hC1⟩ := at_T47 HC.out (j : Int) (by omega) hltz
    subst e
    rw [rdS_at hlt] at hx0 hl1 hC1
    rw [l14_] at hx0
    replace hx0 := ((HBr.out).cell (l1_ w0 _ hx0)).trans hx0
    have HJ := mk0 (show sNL (l.take (j + 1)) = sNL (l.take j) + sN l[j] ∧ sDL (l.take (j + 1)) = max (sDL (l.take j)) (sD l[j]) ∧ sNL (l.take (j + 1)) ≤ sNL l ∧ sNL (l.take j) ≤ sNL l ∧ 1 ≤ sN l[j] from ⟨by rw [takeS hlt, sNL_snoc], by rw [takeS hlt, sDL_snoc], sNL_take l _, sNL_take l _, sN_pos _⟩)
    generalize l[j] = u at *
    have HC1 := mk0 hC1
    have HL1 := mk0 hl1
    clear hC1 hl1
    go_upto_region 6 with (fail)
    have HG5 := mk0 (gtrans HG.out (World.grownBy_alloc wr (.cells #[.slice A1 u.f0.length c1] 47) (some p)))
    have HP5 := mk0 (aD_ HP.out (.cells #[.slice A1 u.f0.length c1] 47))
    have HX5 := mk0 (aU_ wr (.cells #[.slice A1 u.f0.length c1] 47))
    clear HG HP hx0
    generalize (wr.alloc (.cells #[.slice A1 u.f0.length c1] 47)) = w5 at *
    generalize wr.heap.size = b7 at *
    have hb0 : w5.cell? ⟨b7, 0, none⟩ = some (.slice A1 u.f0.length c1) := (aC_ HX5.out 0).trans rfl
    have hq0 : w5.cell? ⟨p, 0, none⟩ = some (.int .i64 lv) := (aC_ HP5.out 0).trans rfl
    have HB5 := mk0 (pw_below_grown HB0.out (some p) (HB0.out).size HG5.out (fun k hk => by cases hk; exact hp))
    by_cases hneg : lv < 0
    ·have HNG := mk0 hneg
     go_wp2
     go_ret
     refine ⟨0, lv, rfl, HP5.out, fun h => ?_, fun _ => HNG.out, (HM.out).2.2.1, HG5.out⟩
     rw [sN] at h
     have := HNG.out
     have h1 := HM.out
     have h2 := HJ.out
     exact absurd (h1.1 (by omega)).2 (by omega)
    ·have HNG := mk0 hneg
     go_wp2_with fail
     refine (IH.out u (by have := HD.out; have := HJ.out; omega) A1 c1 lv w5 HC1.out HL1.out HB5.out HP5.out (by have := HNG.out; omega) (HM.out).2.2.2).mono ?_
     rintro E w6 ⟨d, lv2, rfl, hP6, hx1, hx2, hx3, hG6⟩
     have HP6 := mk0 hP6
     have HG6 := mk0 (gtrans HG5.out hG6)
     have HXX := mk0 (And.intro hx1 (And.intro hx2 hx3))
     clear hP6 hG6 hb0 hq0 HP5 HG5 HX5 HB5 hx1 hx2 hx3 hneg
     have HR := mk0 (show ∀ v : Int, v = (if m < d then d else m) → (1 + (sNL (l.take (j + 1)) : Int) ≤ left → v = (sDL (l.take (j + 1)) : Int) ∧ lv2 = left - 1 - sNL (l.take (j + 1))) ∧ (¬ 1 + (sNL (l.take (j + 1)) : Int) ≤ left → lv2 < 0) ∧ -1 ≤ lv2 ∧ lv2 ≤ 60 from fun v hv => by
      obtain ⟨x1, x2, x3⟩ := HXX.out
      obtain ⟨y1, y2, y3, y4⟩ := HM.out
      obtain ⟨z1, z2, z3, z4, z5⟩ := HJ.out
      have hn := HNG.out
      have hd := HD.out
      have hex : 1 + (sNL (l.take j) : Int) ≤ left := Classical.byContradiction fun h => by have := y2 (by omega); omega
      obtain ⟨e1, e2⟩ := y1 hex
      refine ⟨fun h => ?_, fun h => x2 (by omega), x3, ?_⟩
      ·obtain ⟨f1, f2⟩ := x1 (by omega)
       refine ⟨?_, by omega⟩
       rw [hv, z2, e1, f1]
       split <;> omega
      ·by_cases hc : (sN u : Int) ≤ lv
       ·have := (x1 hc).2; omega
       ·have := x2 hc; omega)
     by_cases hmx : m < d
     ·go_wp2
      go_roundg (l.length - (j + 1))
      case measure => omega
      case rel => exact ⟨d, lv2, j + 1, by omega, by omega, rfl, by rw [wrap_succ (by omega) (by have := HLEN.out; omega)]; rfl, HG6, HP6, ⟨HR.out d (by rw [if_pos hmx])⟩⟩
     ·go_wp2
      go_roundg (l.length - (j + 1))
      case measure => omega
      case rel => exact ⟨m, lv2, j + 1, by omega, by omega, rfl, by rw [wrap_succ (by omega) (by have := HLEN.out; omega)]; rfl, HG6, HP6, ⟨HR.out m (by rw [if_neg (by omega)])⟩⟩
   ·have hltz : ¬ (j : Int) < (l.length : Int) := by omega
    have hje : j = l.length := by omega
    have hm := sDL_le l
    subst hje
    rw [List.take_length] at HM
    go_wp2
    go_ret
    refine ⟨wrap64 (m + 1), lv, rfl, HP.out, fun h => ?_, fun h => ?_, (HM.out).2.2.1, HG.out⟩
    ·rw [sN] at h ⊢
     rw [sD]
     obtain ⟨e1, e2⟩ := (HM.out).1 (by omega)
     have := HD.out
     rw [e1, wr_id (by omega) (by omega)]
     exact ⟨by omega, by omega⟩
    ·rw [sN] at h
     exact (HM.out).2.1 (by omega)
def ssizeV (t : S47) : Int × Int := if sN t ≤ 60 then ((sN t : Int), (sD t : Int)) else (61, 0)
set_option maxHeartbeats 2000000 in
theorem ssize_calls (t : S47) (A : Option Addr) (c : Nat) (w : World) (hC : Kd.C k47 w A t.f0.length t.f0) (hc : t.f0.length ≤ c) :
  Calls Tryz.prog 91 #[.agg #[.slice A t.f0.length c]] w fun E w' => E = .returned (.tuple #[.int .i64 (ssizeV t).1, .int .i64 (ssizeV t).2]) ∧ Below w.heap.size w w' := by
 have HM := mk0 (smeas_calls w (w.heap.size + 1) (Nat.le_succ _) _ t (Nat.le_refl _) A c 60 ((w.alloc (.cells #[.slice A t.f0.length c] 47)).alloc (.cells #[.int .i64 60] 3)) hC hc (aA_ (aA_ (Below.refl _ _) _) _) (blk_at2 w _ _) (by omega) (by omega))
 have HB := mk0 (show Below w.heap.size w ((w.alloc (.cells #[.slice A t.f0.length c] 47)).alloc (.cells #[.int .i64 60] 3)) from aA_ (aA_ (Below.refl _ _) _) _)
 have HX := mk0 (aD_ (aU_ w (.cells #[.slice A t.f0.length c] 47)) (.cells #[.int .i64 60] 3))
 clear hC hc
 go_enter Tryz.func91, Tryz.ntmps91
 go_upto_region 2 with (fail)
 generalize ((w.alloc (.cells #[.slice A t.f0.length c] 47)).alloc (.cells #[.int .i64 60] 3)) = W1 at *
 have hb0 : W1.cell? ⟨w.heap.size, 0, none⟩ = some (.slice A t.f0.length c) := (aC_ HX.out 0).trans rfl
 go_wp2_with fail
 refine (HM.out).mono ?_
 rintro E w2 ⟨d, lv, rfl, hP, hx1, hx2, hx3, hG⟩
 have HB2 := mk0 (below_of_grown HB.out (Nat.le_succ _) hG)
 have hq : w2.cell? ⟨w.heap.size + 1, 0, none⟩ = some (.int .i64 lv) := (aC_ hP 0).trans rfl
 have HXX := mk0 (And.intro hx1 (And.intro hx2 hx3))
 clear hG hP hb0 HM HX HB hx1 hx2 hx3
 by_cases hn : sN t ≤ 60
 ·obtain ⟨rfl, e2⟩ := (HXX.out).1 (by omega)
  have hneg : ¬ lv < 0 := by omega
  have HE := mk0 (show ssizeV t = ((sN t : Int), (sD t : Int)) from if_pos hn)
  have HL := mk0 (show 60 - lv = (sN t : Int) by omega)
  have HLV := mk0 (show 0 ≤ lv ∧ lv ≤ 60 by omega)
  clear e2 hn
  go_wp2
  go_ret2
  refine ⟨?_, HB2.out⟩
  rw [HE.out]
  first
   | (rw [HL.out]; rfl)
   | (rw [wr_id (x := 60 - lv) (by have := HLV.out; omega) (by have := HLV.out; omega), HL.out]; rfl)
 ·have hneg : lv < 0 := (HXX.out).2.1 (by omega)
  have HE := mk0 (show ssizeV t = (61, 0) from if_neg hn)
  clear hn
  go_wp2
  go_ret2
  exact ⟨by rw [HE.out]; rfl, HB2.out⟩
def tMeas (t : S50) (p : Nat) (left : Int) (W : World) (E : Ending) (W' : World) : Prop := ∃ d lv : Int, E = .returned (.int .i64 d) ∧ W'.heap[p]? = some (.cells #[.int .i64 lv] 3 (0, 0)) ∧ ((tN t : Int) ≤ left → d = (tD t : Int) ∧ lv = left - tN t) ∧ (¬ (tN t : Int) ≤ left → lv < 0) ∧ -1 ≤ lv ∧ W.grownBy W' (some p)
set_option maxHeartbeats 4000000 in
set_option maxRecDepth 100000 in
theorem tmeas_calls (w0 : World) (p : Nat) (hp : w0.heap.size ≤ p) (N : Nat) : ∀ (t : S50), tN t ≤ N → ∀ (A : Option Addr) (c : Nat) (left : Int) (W : World), Kd.C k50 w0 A t.f2.length t.f2 → t.f2.length ≤ c → Below w0.heap.size w0 W → W.heap[p]? = some (.cells #[.int .i64 left] 3 (0, 0)) → 0 ≤ left → left ≤ 100000 →
  Calls Tryz.prog 94 #[.agg #[.int .i64 t.f0, .int .i64 t.f1, .slice A t.f2.length c], .pointer (some ⟨p, 0, none⟩)] W (tMeas t p left W) := by
 induction N with
 | zero => intro t h; have := tN_pos t; omega
 | succ N ih =>
  intro t hN A c left W hC hc hB hP hl0 hl2
  obtain ⟨x, y, l⟩ := t
  rw [tN] at hN
  have hpW := blk_lt hP
  have HLEN := mk0 hC.2.1
  have HC := mk0 hC
  have IH := mk0 ih
  have HG1 := mk0 (World.grownBy_alloc W (.cells #[.int .i64 x, .int .i64 y, .slice A l.length c] 50) (some p))
  have HP1 := mk0 (aD_ hP (.cells #[.int .i64 x, .int .i64 y, .slice A l.length c] 50))
  have HX1 := mk0 (aU_ W (.cells #[.int .i64 x, .int .i64 y, .slice A l.length c] 50))
  have HB0 := mk0 hB
  have HD := mk0 (show tNL l ≤ N ∧ 0 ≤ left ∧ left ≤ 100000 from ⟨by omega, hl0, hl2⟩)
  have hq0 : (W.alloc (.cells #[.int .i64 x, .int .i64 y, .slice A l.length c] 50)).cell? ⟨p, 0, none⟩ = some (.int .i64 left) := (aC_ HP1.out 0).trans rfl
  have hq1 : (W.alloc (.cells #[.int .i64 x, .int .i64 y, .slice A l.length c] 50)).frozen? ⟨p, 0, none⟩ = false := aJ_ HP1.out 0
  clear hC ih hP hB hN hl0 hl2
  go_enter Tryz.func94, Tryz.ntmps94
  go_upto_region 1 with (fail)
  generalize (W.alloc (.cells #[.int .i64 x, .int .i64 y, .slice A l.length c] 50)) = W1 at *
  go_upto_region 2 with (fail)
  rw [wr_id (x := left - 1) (by have := HD.out; omega) (by have := HD.out; omega)]
  have hnp : W.heap.size ≠ p := by omega
  have HG2 := mk0 (gtrans HG1.out (grown_setCell W1 ⟨p, 0, none⟩ (.int .i64 (left - 1))))
  have HP2 := mk0 (show (W1.setCell ⟨p, 0, none⟩ (.int .i64 (left - 1))).heap[p]? = some (.cells #[.int .i64 (left - 1)] 3 (0, 0)) from blk_set HP1.out 0 (.int .i64 (left - 1)))
  have HX2 := mk0 (aT_ (p := ⟨p, 0, none⟩) HX1.out hnp (.int .i64 (left - 1)))
  clear hq0 hq1 HG1 HP1 HX1
  generalize (W1.setCell ⟨p, 0, none⟩ (.int .i64 (left - 1))) = W2 at *
  have hb2 : W2.cell? ⟨W.heap.size, 2, none⟩ = some (.slice A l.length c) := (aC_ HX2.out 2).trans rfl
  go_wp2
  clear hb2
  go_loopg [5, 16] l.length (fun gg v5 v16 wi => ∃ (m lv : Int) (j : Nat), j ≤ l.length ∧ l.length - j ≤ gg ∧ v5 = .int .i64 m ∧ v16 = .int .i64 j ∧ Aside0 (W.grownBy wi (some p)) ∧ Aside0 (wi.heap[p]? = some (.cells #[.int .i64 lv] 3 (0, 0))) ∧
   Aside0 ((1 + (tNL (l.take j) : Int) ≤ left → m = (tDL (l.take j) : Int) ∧ lv = left - 1 - tNL (l.take j)) ∧ (¬ 1 + (tNL (l.take j) : Int) ≤ left → lv < 0) ∧ -1 ≤ lv ∧ lv ≤ 100000))
  case atStart => exact ⟨0, left - 1, 0, by omega, by omega, rfl, rfl, HG2, HP2, ⟨fun _ => ⟨by rw [List.take_zero, tDL]; rfl, by rw [List.take_zero, tNL]; simp⟩, fun h => by rw [List.take_zero, tNL] at h; simp at h; omega, by have := HD.out; omega, by have := HD.out; omega⟩⟩
  case round =>
   clear HG2 HP2 HX2
   obtain ⟨m, lv, j, hj, hgg, rfl, rfl, HG, HP, HM⟩ := hrel
   by_cases hlt : j < l.length
   ·have hltz : (j : Int) < (l.length : Int) := by omega
    have HBr := mk0 (pw_below_grown HB0.out (some p) (HB0.out).size HG.out (fun k hk => by cases hk; exact hp))
    obtain ⟨ad, A1, c1, e, hx0, hx1, hx2, hl1, hC1⟩ := at_T50 HC.out (j : Int) (by omega) hltz
    subst e
    rw [rdT_at hlt] at hx0 hx1 hx2 hl1 hC1
    rw [l14_] at hx0 hx1 hx2
    replace hx0 := ((HBr.out).cell (l1_ w0 _ hx0)).trans hx0
    replace hx1 := ((HBr.out).cell (l1_ w0 _ hx1)).trans hx1
    replace hx2 := ((HBr.out).cell (l1_ w0 _ hx2)).trans hx2
    have HJ := mk0 (show tNL (l.take (j + 1)) = tNL (l.take j) + tN l[j] ∧ tDL (l.take (j + 1)) = max (tDL (l.take j)) (tD l[j]) ∧ tNL (l.take (j + 1)) ≤ tNL l ∧ tNL (l.take j) ≤ tNL l ∧ 1 ≤ tN l[j] from ⟨by rw [takeS hlt, tNL_snoc], by rw [takeS hlt, tDL_snoc], tNL_take l _, tNL_take l _, tN_pos _⟩)
    generalize l[j] = u at *
    have HC1 := mk0 hC1
    have HL1 := mk0 hl1
    clear hC1 hl1
    go_upto_region 6 with (fail)
    have HG5 := mk0 (gtrans HG.out (World.grownBy_alloc wr (.cells #[.int .i64 u.f0, .int .i64 u.f1, .slice A1 u.f2.length c1] 50) (some p)))
    have HP5 := mk0 (aD_ HP.out (.cells #[.int .i64 u.f0, .int .i64 u.f1, .slice A1 u.f2.length c1] 50))
    have HX5 := mk0 (aU_ wr (.cells #[.int .i64 u.f0, .int .i64 u.f1, .slice A1 u.f2.length c1] 50))
    clear HG HP hx0 hx1 hx2
    generalize (wr.alloc (.cells #[.int .i64 u.f0, .int .i64 u.f1, .slice A1 u.f2.length c1] 50)) = w5 at *
    generalize wr.heap.size = b7 at *
    have hb0 : w5.cell? ⟨b7, 0, none⟩ = some (.int .i64 u.f0) := (aC_ HX5.out 0).trans rfl
    have hb1 : w5.cell? ⟨b7, 1, none⟩ = some (.int .i64 u.f1) := (aC_ HX5.out 1).trans rfl
    have hb2 : w5.cell? ⟨b7, 2, none⟩ = some (.slice A1 u.f2.length c1) := (aC_ HX5.out 2).trans rfl
    have hq0 : w5.cell? ⟨p, 0, none⟩ = some (.int .i64 lv) := (aC_ HP5.out 0).trans rfl
    have HB5 := mk0 (pw_below_grown HB0.out (some p) (HB0.out).size HG5.out (fun k hk => by cases hk; exact hp))
    by_cases hneg : lv < 0
    ·have HNG := mk0 hneg
     go_wp2
     go_ret
     refine ⟨0, lv, rfl, HP5.out, fun h => ?_, fun _ => HNG.out, (HM.out).2.2.1, HG5.out⟩
     rw [tN] at h
     have := HNG.out
     have h1 := HM.out
     have h2 := HJ.out
     exact absurd (h1.1 (by omega)).2 (by omega)
    ·have HNG := mk0 hneg
     go_wp2_with fail
     refine (IH.out u (by have := HD.out; have := HJ.out; omega) A1 c1 lv w5 HC1.out HL1.out HB5.out HP5.out (by have := HNG.out; omega) (HM.out).2.2.2).mono ?_
     rintro E w6 ⟨d, lv2, rfl, hP6, hx1, hx2, hx3, hG6⟩
     have HP6 := mk0 hP6
     have HG6 := mk0 (gtrans HG5.out hG6)
     have HXX := mk0 (And.intro hx1 (And.intro hx2 hx3))
     clear hP6 hG6 hb0 hb1 hb2 hq0 HP5 HG5 HX5 HB5 hx1 hx2 hx3 hneg
     have HR := mk0 (show ∀ v : Int, v = (if m < d then d else m) → (1 + (tNL (l.take (j + 1)) : Int) ≤ left → v = (tDL (l.take (j + 1)) : Int) ∧ lv2 = left - 1 - tNL (l.take (j + 1))) ∧ (¬ 1 + (tNL (l.take (j + 1)) : Int) ≤ left → lv2 < 0) ∧ -1 ≤ lv2 ∧ lv2 ≤ 100000 from fun v hv => by
      obtain ⟨x1, x2, x3⟩ := HXX.out
      obtain ⟨y1, y2, y3, y4⟩ := HM.out
      obtain ⟨z1, z2, z3, z4, z5⟩ := HJ.out
      have hn := HNG.out
      have hd := HD.out
      have hex : 1 + (tNL (l.take j) : Int) ≤ left := Classical.byContradiction fun h => by have := y2 (by omega); omega
      obtain ⟨e1, e2⟩ := y1 hex
      refine ⟨fun h => ?_, fun h => x2 (by omega), x3, ?_⟩
      ·obtain ⟨f1, f2⟩ := x1 (by omega)
       refine ⟨?_, by omega⟩
       rw [hv, z2, e1, f1]
       split <;> omega
      ·by_cases hc : (tN u : Int) ≤ lv
       ·have := (x1 hc).2; omega
       ·have := x2 hc; omega)
     by_cases hmx : m < d
     ·go_wp2
      go_roundg (l.length - (j + 1))
      case measure => omega
      case rel => exact ⟨d, lv2, j + 1, by omega, by omega, rfl, by rw [wrap_succ (by omega) (by have := HLEN.out; omega)]; rfl, HG6, HP6, ⟨HR.out d (by rw [if_pos hmx])⟩⟩
     ·go_wp2
      go_roundg (l.length - (j + 1))
      case measure => omega
      case rel => exact ⟨m, lv2, j + 1, by omega, by omega, rfl, by rw [wrap_succ (by omega) (by have := HLEN.out; omega)]; rfl, HG6, HP6, ⟨HR.out m (by rw [if_neg (by omega)])⟩⟩
   ·have hltz : ¬ (j : Int) < (l.length : Int) := by omega
    have hje : j = l.length := by omega
    have hm := tDL_le l
    subst hje
    rw [List.take_length] at HM
    go_wp2
    go_ret
    refine ⟨wrap64 (m + 1), lv, rfl, HP.out, fun h => ?_, fun h => ?_, (HM.out).2.2.1, HG.out⟩
    ·rw [tN] at h ⊢
     rw [tD]
     obtain ⟨e1, e2⟩ := (HM.out).1 (by omega)
     have := HD.out
     rw [e1, wr_id (by omega) (by omega)]
     exact ⟨by omega, by omega⟩
    ·rw [tN] at h
     exact (HM.out).2.1 (by omega)
def tsizeV (t : S50) : Int × Int := if tN t ≤ 100000 then ((tN t : Int), (tD t : Int)) else (100001, 0)
set_option maxHeartbeats 2000000 in
theorem tsize_calls (t : S50) (A : Option Addr) (c : Nat) (w : World) (hC : Kd.C k50 w A t.f2.length t.f2) (hc : t.f2.length ≤ c) :
  Calls Tryz.prog 41 #[.agg #[.int .i64 t.f0, .int .i64 t.f1, .slice A t.f2.length c]] w fun E w' => E = .returned (.tuple #[.int .i64 (tsizeV t).1, .int .i64 (tsizeV t).2]) ∧ Below w.heap.size w w' := by
 have HM := mk0 (tmeas_calls w (w.heap.size + 1) (Nat.le_succ _) _ t (Nat.le_refl _) A c 100000 ((w.alloc (.cells #[.int .i64 t.f0, .int .i64 t.f1, .slice A t.f2.length c] 50)).alloc (.cells #[.int .i64 100000] 3)) hC hc (aA_ (aA_ (Below.refl _ _) _) _) (blk_at2 w _ _) (by omega) (by omega))
 have HB := mk0 (show Below w.heap.size w ((w.alloc (.cells #[.int .i64 t.f0, .int .i64 t.f1, .slice A t.f2.length c] 50)).alloc (.cells #[.int .i64 100000] 3)) from aA_ (aA_ (Below.refl _ _) _) _)
 have HX := mk0 (aD_ (aU_ w (.cells #[.int .i64 t.f0, .int .i64 t.f1, .slice A t.f2.length c] 50)) (.cells #[.int .i64 100000] 3))
 clear hC hc
 go_enter Tryz.func41, Tryz.ntmps41
 go_upto_region 2 with (fail)
 generalize ((w.alloc (.cells #[.int .i64 t.f0, .int .i64 t.f1, .slice A t.f2.length c] 50)).alloc (.cells #[.int .i64 100000] 3)) = W1 at *
 have hb0 : W1.cell? ⟨w.heap.size, 0, none⟩ = some (.int .i64 t.f0) := (aC_ HX.out 0).trans rfl
 have hb1 : W1.cell? ⟨w.heap.size, 1, none⟩ = some (.int .i64 t.f1) := (aC_ HX.out 1).trans rfl
 have hb2 : W1.cell? ⟨w.heap.size, 2, none⟩ = some (.slice A t.f2.length c) := (aC_ HX.out 2).trans rfl
 go_wp2_with fail
 refine (HM.out).mono ?_
 rintro E w2 ⟨d, lv, rfl, hP, hx1, hx2, hx3, hG⟩
 have HB2 := mk0 (below_of_grown HB.out (Nat.le_succ _) hG)
 have hq : w2.cell? ⟨w.heap.size + 1, 0, none⟩ = some (.int .i64 lv) := (aC_ hP 0).trans rfl
 have HXX := mk0 (And.intro hx1 (And.intro hx2 hx3))
 clear hG hP hb0 hb1 hb2 HM HX HB hx1 hx2 hx3
 by_cases hn : tN t ≤ 100000
 ·obtain ⟨rfl, e2⟩ := (HXX.out).1 (by omega)
  have hneg : ¬ lv < 0 := by omega
  have HE := mk0 (show tsizeV t = ((tN t : Int), (tD t : Int)) from if_pos hn)
  have HL := mk0 (show 100000 - lv = (tN t : Int) by omega)
  have HLV := mk0 (show 0 ≤ lv ∧ lv ≤ 100000 by omega)
  clear e2 hn
  go_wp2
  go_ret2
  refine ⟨?_, HB2.out⟩
  rw [HE.out]
  first
   | (rw [HL.out]; rfl)
   | (rw [wr_id (x := 100000 - lv) (by have := HLV.out; omega) (by have := HLV.out; omega), HL.out]; rfl)
 ·have hneg : lv < 0 := (HXX.out).2.1 (by omega)
  have HE := mk0 (show tsizeV t = (100001, 0) from if_neg hn)
  clear hn
  go_wp2
  go_ret2
  exact ⟨by rw [HE.out]; rfl, HB2.out⟩
def fv93 : Value := .func (.func 93) #[] #[]
theorem few1_calls (A : Option Addr) (n c : Nat) (w : World) : Calls Tryz.prog 93 #[.agg #[.slice A n c]] w fun E w' => E = .returned (.bool (decide (n ≤ 8))) ∧ Below w.heap.size w w' := by
 have HB := mk0 (aA_ (Below.refl w.heap.size w) (.cells #[.slice A n c] 47))
 have HX := mk0 (aU_ w (.cells #[.slice A n c] 47))
 go_enter Tryz.func93, Tryz.ntmps93
 go_upto_region 1 with (fail)
 generalize w.alloc (.cells #[.slice A n c] 47) = W1 at *
 have hb0 : W1.cell? ⟨w.heap.size, 0, none⟩ = some (.slice A n c) := (aC_ HX.out 0).trans rfl
 go_wp2
 go_ret
 exact ⟨by rw [show decide ((n : Int) ≤ 8) = decide (n ≤ 8) from decide_eq_decide.2 (by omega)]; rfl, HB.out⟩
theorem sFL_snoc (a : List S47) (x : S47) : sFL (a ++ [x]) = (sFL a && sF x) := by
 induction a with
 | nil => simp [sFL]
 | cons y r ih => rw [List.cons_append, sFL, sFL, ih, Bool.and_assoc]
theorem sFL_take {l : List S47} {j : Nat} (h : sFL (l.take j) = false) : sFL l = false := by
 induction l generalizing j with
 | nil => simp [sFL] at h
 | cons a r ih =>
  cases j with
  | zero => simp [sFL] at h
  | succ j =>
   rw [List.take_succ_cons, sFL] at h
   rw [sFL]
   cases e : sF a with
   | false => rfl
   | true => rw [e, Bool.true_and] at h; rw [ih h]; rfl
set_option maxHeartbeats 4000000 in
set_option maxRecDepth 100000 in
theorem sall_calls (w0 : World) (N : Nat) : ∀ (t : S47), sN t ≤ N → N ≤ 1000000 → ∀ (A : Option Addr) (c : Nat) (W : World), Kd.C k47 w0 A t.f0.length t.f0 → t.f0.length ≤ c → Below w0.heap.size w0 W →
  Calls Tryz.prog 92 #[.agg #[.slice A t.f0.length c], fv93] W fun E W' => E = .returned (.bool (sF t)) ∧ Below W.heap.size W W' := by
 induction N with
 | zero => intro t h; have := sN_pos t; omega
 | succ N ih =>
  intro t hN hM A c W hC hc hB
  obtain ⟨l⟩ := t
  rw [sN] at hN
  have HLEN := mk0 (show l.length ≤ 1000000 from by have := sLen_le (l := l); omega)
  have HC := mk0 hC
  have IH := mk0 ih
  have HB0 := mk0 hB
  have HD := mk0 (show sNL l ≤ N ∧ N ≤ 1000000 from ⟨by omega, by omega⟩)
  have HB1 := mk0 (aA_ (Below.refl W.heap.size W) (.cells #[.slice A l.length c] 47))
  have HX1 := mk0 (aU_ W (.cells #[.slice A l.length c] 47))
  clear hC ih hB hN hM hc
  unfold fv93
  go_enter Tryz.func92, Tryz.ntmps92
  go_upto_region 1 with (fail)
  generalize (W.alloc (.cells #[.slice A l.length c] 47)) = W1 at *
  have hb0 : W1.cell? ⟨W.heap.size, 0, none⟩ = some (.slice A l.length c) := (aC_ HX1.out 0).trans rfl
  go_wp2
  clear hb0
  go_loopg [10] l.length (fun gg v10 wi => ∃ (j : Nat), j ≤ l.length ∧ l.length - j ≤ gg ∧ v10 = .int .i64 j ∧ Aside0 (Below W.heap.size W wi) ∧ Aside0 (wi.heap[W.heap.size]? = some (.cells #[.slice A l.length c] 47 (0, 0))) ∧ Aside0 (sFL (l.take j) = true))
  case atStart => exact ⟨0, by omega, by omega, rfl, HB1, HX1, ⟨by rw [List.take_zero, sFL]⟩⟩
  case round =>
   clear HB1 HX1
   obtain ⟨j, hj, hgg, rfl, HB, HX, HT⟩ := hrel
   by_cases hlt : j < l.length
   ·have hltz : (j : Int) < (l.length : Int) := by omega
    have HBr := mk0 (aM_ HB0.out (HB0.out).size HB.out)
    obtain ⟨ad, A1, c1, e, hx0, hl1, hC1⟩ := at_T47 HC.out (j : Int) (by omega) hltz
    subst e
    rw [rdS_at hlt] at hx0 hl1 hC1
    rw [l14_] at hx0
    replace hx0 := ((HBr.out).cell (l1_ w0 _ hx0)).trans hx0
    have HJ := mk0 (show sFL (l.take (j + 1)) = sF l[j] ∧ sN l[j] ≤ N from ⟨by rw [takeS hlt, sFL_snoc, HT.out, Bool.true_and], by have := sN_mem (l11_ hlt); have := HD.out; omega⟩)
    generalize l[j] = u at *
    have HC1 := mk0 hC1
    have HL1 := mk0 hl1
    clear hC1 hl1
    go_upto_region 4 with (fail)
    have HB5 := mk0 (aA_ HB.out (.cells #[.slice A1 u.f0.length c1] 47))
    have HBr5 := mk0 (aA_ HBr.out (.cells #[.slice A1 u.f0.length c1] 47))
    have HX5 := mk0 (aU_ wr (.cells #[.slice A1 u.f0.length c1] 47))
    have HY5 := mk0 (aD_ HX.out (.cells #[.slice A1 u.f0.length c1] 47))
    clear HB HX HBr hx0
    generalize (wr.alloc (.cells #[.slice A1 u.f0.length c1] 47)) = w5 at *
    generalize wr.heap.size = b7 at *
    have hb0 : w5.cell? ⟨b7, 0, none⟩ = some (.slice A1 u.f0.length c1) := (aC_ HX5.out 0).trans rfl
    go_wp2_with fail
    refine (IH.out u (HJ.out).2 (HD.out).2 A1 c1 w5 HC1.out HL1.out HBr5.out).mono ?_
    rintro E w6 ⟨rfl, hb⟩
    have HB6 := mk0 (aM_ HB5.out (HB5.out).size hb)
    have HY6 := mk0 (aK_ HY5.out hb)
    clear hb hb0
    cases q : sF u with
    | false =>
     have HF := mk0 (show sFL l = false from sFL_take (j := j + 1) (by rw [(HJ.out).1, q]))
     clear q
     go_wp2
     go_ret
     exact ⟨by rw [sF, HF.out]; rfl, HB6.out⟩
    | true =>
     have HF := mk0 (show sFL (l.take (j + 1)) = true from by rw [(HJ.out).1, q])
     clear q
     go_wp2
     go_roundg (l.length - (j + 1))
     case measure => omega
     case rel => exact ⟨j + 1, by omega, by omega, by rw [wrap_succ (by omega) (by have := HLEN.out; omega)]; rfl, HB6, HY6, HF⟩
   ·have hltz : ¬ (j : Int) < (l.length : Int) := by omega
    have hje : j = l.length := by omega
    have hb0 : wr.cell? ⟨W.heap.size, 0, none⟩ = some (.slice A l.length c) := (aC_ HX.out 0).trans rfl
    subst hje
    rw [List.take_length] at HT
    go_wp2_with fail
    refine (few1_calls A l.length c wr).mono ?_
    rintro E w6 ⟨rfl, hb⟩
    have HB6 := mk0 (aM_ HB.out (HB.out).size hb)
    clear hb hb0
    go_wp2
    go_ret
    exact ⟨by rw [sF, HT.out, Bool.true_and]; rfl, HB6.out⟩
def schkV (t : S47) : Int := if srtB t then 0 else 6
set_option maxHeartbeats 4000000 in
set_option maxRecDepth 100000 in
theorem scheck_calls (t : S47) (A : Option Addr) (c : Nat) (w : World) (hC : Kd.C k47 w A t.f0.length t.f0) (hc : t.f0.length ≤ c) :
  Calls Tryz.prog 40 #[.agg #[.slice A t.f0.length c]] w fun E w' => E = .returned (.int .i64 (schkV t)) ∧ Below w.heap.size w w' := by
 have HS := mk0 fun W (hW : Below w.heap.size w W) => ssize_calls t A c W (Kd.C_below hC hW) hc
 have HA := mk0 fun (h : sN t ≤ 60) W (hW : Below w.heap.size w W) => sall_calls w 60 t h (by omega) A c W hC hc hW
 have HB := mk0 (aA_ (Below.refl w.heap.size w) (.cells #[.slice A t.f0.length c] 47))
 have HX := mk0 (aU_ w (.cells #[.slice A t.f0.length c] 47))
 clear hC hc
 go_enter Tryz.func40, Tryz.ntmps40
 go_upto_region 1 with (fail)
 generalize w.alloc (.cells #[.slice A t.f0.length c] 47) = W1 at *
 have hb0 : W1.cell? ⟨w.heap.size, 0, none⟩ = some (.slice A t.f0.length c) := (aC_ HX.out 0).trans rfl
 go_wp2_with fail
 refine (HS.out W1 HB.out).mono ?_
 rintro E w2 ⟨rfl, hb⟩
 have HB2 := mk0 (aM_ HB.out (HB.out).size hb)
 have HX2 := mk0 (aK_ HX.out hb)
 clear hb hb0 HS HB HX
 have hb0 : w2.cell? ⟨w.heap.size, 0, none⟩ = some (.slice A t.f0.length c) := (aC_ HX2.out 0).trans rfl
 by_cases h1 : sN t ≤ 60
 case neg =>
  have HV := mk0 (show schkV t = 6 by unfold schkV srtB; rw [l3_ h1]; rfl)
  rw [show ssizeV t = (61, 0) from if_neg h1]
  clear h1
  go_wp2
  go_ret
  exact ⟨by rw [HV.out]; rfl, HB2.out⟩
 have HA2 := mk0 (HA.out h1 w2 HB2.out)
 rw [show ssizeV t = ((sN t : Int), (sD t : Int)) from if_pos h1]
 have h1z : ¬ (sN t : Int) > 60 := by omega
 by_cases h2 : sD t ≤ 30
 case neg =>
  have HV := mk0 (show schkV t = 6 by unfold schkV srtB; rw [l3_ h2]; simp)
  have h2z : (sD t : Int) > 30 := by omega
  clear h1 h2
  generalize (sN t : Int) = n at *
  generalize (sD t : Int) = d at *
  go_wp2
  go_ret
  exact ⟨by rw [HV.out]; rfl, HB2.out⟩
 have HV := mk0 (show schkV t = if sF t then 0 else 6 by unfold schkV srtB; rw [l2_ h1, l2_ h2, Bool.true_and, Bool.true_and])
 have h2z : ¬ (sD t : Int) > 30 := by omega
 clear h1 h2
 generalize (sN t : Int) = n at *
 generalize (sD t : Int) = d at *
 go_wp2_with fail
 refine (HA2.out).mono ?_
 rintro E w3 ⟨rfl, hb⟩
 have HB3 := mk0 (aM_ HB2.out (HB2.out).size hb)
 clear hb hb0
 cases q : sF t with
 | false =>
  rw [q] at HV
  clear q
  go_wp2
  go_ret
  exact ⟨by rw [HV.out]; rfl, HB3.out⟩
 | true =>
  rw [q] at HV
  clear q
  go_wp2
  go_ret
  exact ⟨by rw [HV.out]; rfl, HB3.out⟩
theorem ssame_call (a b : S47) (A : Option Addr) (c : Nat) (B : Option Addr) (d : Nat) (w : World) (ha : Kd.C k47 w A a.f0.length a.f0) (hac : a.f0.length ≤ c) (hb : Kd.C k47 w B b.f0.length b.f0) (hbc : b.f0.length ≤ d) (hn : sN a ≤ 1000000) :
  Calls Tryz.prog 112 #[.agg #[.slice A a.f0.length c], .agg #[.slice B b.f0.length d]] w fun E w' => E = .returned (.bool (sE a b)) ∧ Below w.heap.size w w' := by
 obtain ⟨k, hk⟩ := (same_ev 1000000 a b hn (by omega)).rounds
 exact Q.sorts_same.calls k A c a.f0 B d b.f0 (sE a b) w ha hac hb hbc hk
def sSameV (a b : S47) : Bool := decide (sN a ≤ 60) && sE a b
theorem sE_N {a b : S47} (h : sN a ≠ sN b) : sE a b = false := by
 cases e : sE a b with
 | false => rfl
 | true => rw [sE_iff.1 e] at h; exact absurd rfl h
theorem sSame_size {a b : S47} : sSameV a b = (decide ((ssizeV a).1 ≤ 60) && (decide ((ssizeV a).1 = (ssizeV b).1) && sE a b)) := by
 unfold sSameV ssizeV
 by_cases h : sN a ≤ 60
 ·rw [if_pos h, l2_ h]
  by_cases h2 : sN b ≤ 60
  ·rw [if_pos h2]
   by_cases h3 : sN a = sN b
   ·rw [h3]; simp; omega
   ·rw [sE_N h3]; simp
  ·rw [if_neg h2, sE_N (by omega)]; simp
 ·rw [if_neg h, l3_ h]; simp
set_option maxHeartbeats 4000000 in
set_option maxRecDepth 100000 in
theorem sSame_calls (a b : S47) (A : Option Addr) (c : Nat) (B : Option Addr) (d : Nat) (w : World) (ha : Kd.C k47 w A a.f0.length a.f0) (hac : a.f0.length ≤ c) (hb : Kd.C k47 w B b.f0.length b.f0) (hbc : b.f0.length ≤ d) :
  Calls Tryz.prog 74 #[.agg #[.slice A a.f0.length c], .agg #[.slice B b.f0.length d]] w fun E w' => E = .returned (.bool (sSameV a b)) ∧ Below w.heap.size w w' := by
 have H1 := mk0 fun W (hW : Below w.heap.size w W) => ssize_calls a A c W (Kd.C_below ha hW) hac
 have H2 := mk0 fun W (hW : Below w.heap.size w W) => ssize_calls b B d W (Kd.C_below hb hW) hbc
 have H3 := mk0 fun (h : (ssizeV a).1 ≤ 60) W (hW : Below w.heap.size w W) => ssame_call a b A c B d W (Kd.C_below ha hW) hac (Kd.C_below hb hW) hbc (by
  unfold ssizeV at h
  by_cases h1 : sN a ≤ 60
  ·omega
  ·rw [if_neg h1] at h; exact absurd h (by decide))
 have HV := mk0 (sSame_size (a := a) (b := b))
 have HB := mk0 (aA_ (aA_ (Below.refl w.heap.size w) (.cells #[.slice A a.f0.length c] 47)) (.cells #[.slice B b.f0.length d] 47))
 have HX := mk0 (aD_ (aU_ w (.cells #[.slice A a.f0.length c] 47)) (.cells #[.slice B b.f0.length d] 47))
 have HY := mk0 (blk_at2 w (.cells #[.slice A a.f0.length c] 47) (.cells #[.slice B b.f0.length d] 47))
 clear ha hac hb hbc
 go_enter Tryz.func74, Tryz.ntmps74
 go_upto_region 1 with (fail)
 generalize (w.alloc (.cells #[.slice A a.f0.length c] 47)).alloc (.cells #[.slice B b.f0.length d] 47) = W1 at *
 have hb0 : W1.cell? ⟨w.heap.size, 0, none⟩ = some (.slice A a.f0.length c) := (aC_ HX.out 0).trans rfl
 have hb1 : W1.cell? ⟨w.heap.size + 1, 0, none⟩ = some (.slice B b.f0.length d) := (aC_ HY.out 0).trans rfl
 go_wp2_with fail
 refine (H1.out W1 HB.out).mono ?_
 rintro E w2 ⟨rfl, hb⟩
 have HB2 := mk0 (aM_ HB.out (HB.out).size hb)
 have HX2 := mk0 (aK_ HX.out hb)
 have HY2 := mk0 (aK_ HY.out hb)
 clear hb hb0 hb1 HB HX HY
 have hb0 : w2.cell? ⟨w.heap.size, 0, none⟩ = some (.slice A a.f0.length c) := (aC_ HX2.out 0).trans rfl
 have hb1 : w2.cell? ⟨w.heap.size + 1, 0, none⟩ = some (.slice B b.f0.length d) := (aC_ HY2.out 0).trans rfl
 go_wp2_with fail
 refine (H2.out w2 HB2.out).mono ?_
 rintro E w3 ⟨rfl, hb⟩
 have HB3 := mk0 (aM_ HB2.out (HB2.out).size hb)
 have HX3 := mk0 (aK_ HX2.out hb)
 have HY3 := mk0 (aK_ HY2.out hb)
 clear hb hb0 hb1 HB2 HX2 HY2
 have hb0 : w3.cell? ⟨w.heap.size, 0, none⟩ = some (.slice A a.f0.length c) := (aC_ HX3.out 0).trans rfl
 have hb1 : w3.cell? ⟨w.heap.size + 1, 0, none⟩ = some (.slice B b.f0.length d) := (aC_ HY3.out 0).trans rfl
 generalize (ssizeV a).1 = n at *
 generalize (ssizeV b).1 = m at *
 cases q1 : decide (n ≤ 60) with
 | false =>
  rw [q1] at HV
  go_wp2
  go_ret
  exact ⟨by rw [HV.out]; rfl, HB3.out⟩
 | true =>
 have H4 := mk0 (H3.out (l0_ q1) w3 HB3.out)
 rw [q1] at HV
 cases q2 : decide (n = m) with
 | false =>
  rw [q2] at HV
  have hne : ¬ n = m := of_decide_eq_false q2
  go_wp2
  go_ret
  exact ⟨by rw [HV.out]; rfl, HB3.out⟩
 | true =>
  rw [q2] at HV
  obtain rfl : n = m := l0_ q2
  go_wp2_with fail
  refine (H4.out).mono ?_
  rintro E w4 ⟨rfl, hb⟩
  have HB4 := mk0 (aM_ HB3.out (HB3.out).size hb)
  clear hb
  go_wp2
  go_ret
  exact ⟨by rw [HV.out]; rfl, HB4.out⟩
end Go.Proofs.YthflpbgloeimfaaGreatDoor.H
namespace Go.Proofs.YthflpbgloeimfaaGreatDoorW.PrintWords
open Go.RowKit Go.Maps Go.ChangeMaps
set_option linter.unusedVariables false
set_option linter.unusedSimpArgs false
structure KeyB {κ : Type} (P : Program) (k : TypeId) (enc : κ → Value) (dom : κ → Prop) : Prop where
 K : Keyed P k
 lit : ∀ x, dom x → ∃ l, keyOf P k (enc x) = some l
 inj : ∀ x y, enc x = enc y → x = y
def entsOf {κ ν : Type} (enc : κ → Value) (encV : ν → Value) (es : List (κ × ν)) : List (Value × Value) := es.map fun p => (enc p.1, encV p.2)
def MapIs {κ ν : Type} (w : World) (B : Nat) (enc : κ → Value) (encV : ν → Value) (dom : κ → Prop) (es : List (κ × ν)) : Prop :=
 (∃ ms ck, w.heap[B]? = some (.map ms ck) ∧ ms.toList.map (fun e => (e.key, e.val)) = entsOf enc encV es) ∧ (es.map (·.1)).Nodup ∧ ∀ p ∈ es, dom p.1
section
variable {κ ν : Type} {P : Program} {w w1 : World} {B : Nat} {enc : κ → Value} {encV : ν → Value} {dom : κ → Prop} {es : List (κ × ν)} {k t e : TypeId}
theorem mapIs_new (w : World) (enc : κ → Value) (encV : ν → Value) (dom : κ → Prop) : MapIs (w.alloc (.map #[] 0)) w.heap.size enc encV dom [] :=
 ⟨⟨#[], 0, heap_alloc_new w _, rfl⟩, List.nodup_nil, by simp⟩
theorem MapIs.kept (h : MapIs w B enc encV dom es) (hb : w1.heap[B]? = w.heap[B]?) : MapIs w1 B enc encV dom es := by
 obtain ⟨⟨ms, ck, h1, h2⟩, h3⟩ := h
 exact ⟨⟨ms, ck, hb.trans h1, h2⟩, h3⟩
theorem MapIs.lt (h : MapIs w B enc encV dom es) : B < w.heap.size := by
 obtain ⟨⟨ms, ck, h1, _⟩, _⟩ := h
 exact (Array.getElem?_eq_some_iff.1 h1).1
theorem MapIs.below (h : MapIs w B enc encV dom es) (hb : Below w.heap.size w w1) : MapIs w1 B enc encV dom es := h.kept (hb.block B h.lt)
theorem MapIs.grown (h : MapIs w B enc encV dom es) {row : Option Nat} (hg : w.grownBy w1 row) (hne : some B ≠ row) : MapIs w1 B enc encV dom es := h.kept (hg.block B h.lt hne)
theorem MapIs.far (h : MapIs w B enc encV dom es) {p : Addr} (hp : B ≠ p.block) (u : Value) : MapIs (w.setCell p u) B enc encV dom es := h.kept (Below.heap_setCell w p u B hp)
theorem MapIs.ne_row (h : MapIs w B enc encV dom es) {g : Nat} {cs : Array Value} {q : TypeId} {fr : Nat × Nat} (hg : w.heap[g]? = some (.cells cs q fr)) : g ≠ B := by
 rintro rfl
 obtain ⟨⟨ms, ck, h1, _⟩, _⟩ := h
 rw [hg] at h1
 cases h1
theorem MapIs.len (h : MapIs w B enc encV dom es) (ht : P.underlying t = some (.map k e)) (ty : TypeId) : (Builtin.len_ #[t] ty #[.map (some B)]).run P w = .ok (.int .i64 es.length) w := by
 obtain ⟨⟨ms, ck, hb, hms⟩, _⟩ := h
 have hlen : ms.size = es.length := by have := congrArg List.length hms; simpa [entsOf] using this
 simp [Builtin.len_, run_underlying ht, MapKept.run_getObj_map hb, hlen, goInt]
end
section
variable {κ ν : Type} [DecidableEq κ] {P : Program} {w w1 : World} {B : Nat} {enc : κ → Value} {encV : ν → Value} {dom : κ → Prop} {es : List (κ × ν)} {k t e : TypeId}
def mget (x : κ) (es : List (κ × ν)) : Option ν := (es.find? fun p => p.1 = x).map (·.2)
def mput (x : κ) (v : ν) : List (κ × ν) → List (κ × ν)
 | [] => [(x, v)]
 | (y, u) :: r => if y = x then (x, v) :: r else (y, u) :: mput x v r
theorem mput_new {x : κ} {v : ν} {es : List (κ × ν)} (h : x ∉ es.map (·.1)) : mput x v es = es ++ [(x, v)] := by
 induction es with
 | nil => rfl
 | cons p r ih =>
  obtain ⟨y, u⟩ := p
  simp only [List.map_cons, List.mem_cons, not_or] at h
  simp only [mput, if_neg (Ne.symm h.1), ih h.2, List.cons_append]
theorem mput_keys {x : κ} {v : ν} (es : List (κ × ν)) : (mput x v es).map (·.1) = if x ∈ es.map (·.1) then es.map (·.1) else es.map (·.1) ++ [x] := by
 induction es with
 | nil => simp [mput]
 | cons p r ih =>
  obtain ⟨y, u⟩ := p
  by_cases h : y = x
  ·subst h; simp [mput]
  ·simp only [mput, if_neg h, List.map_cons, ih, List.mem_cons, Ne.symm h, false_or]
   split <;> simp
theorem mget_none {x : κ} {es : List (κ × ν)} : mget x es = none ↔ x ∉ es.map (·.1) := by
 simp only [mget, Option.map_eq_none_iff, List.find?_eq_none, List.mem_map, not_exists, not_and, l20_]
theorem find_keys (H : KeyB P k enc dom) {ms : List MapEntry} (hms : ms.map (fun e => (e.key, e.val)) = entsOf enc encV es) (hd : ∀ p ∈ es, dom p.1) {x : κ} (hx : dom x) (w : World) (hnd : (es.map (·.1)).Nodup) :
  (mget x es = none ∧ (Instr.findKey k (enc x) ms).run P w = .ok none w) ∨ ∃ v j, mget x es = some v ∧ es[j]? = some (x, v) ∧ (Instr.findKey k (enc x) ms).run P w = .ok (some (j, encV v)) w := by
 have hlen : ms.length = es.length := by have := congrArg List.length hms; simpa [entsOf] using this
 have hat : ∀ (j : Nat) (e : MapEntry), ms[j]? = some e → ∃ p : κ × ν, es[j]? = some p ∧ e.key = enc p.1 ∧ e.val = encV p.2 := by
  intro j e he
  have h1 : (ms.map (fun e => (e.key, e.val)))[j]? = some (e.key, e.val) := by rw [List.getElem?_map, he]; rfl
  rw [hms] at h1
  simp only [entsOf, List.getElem?_map, Option.map_eq_some_iff, Prod.mk.injEq] at h1
  obtain ⟨p, hp, h2, h3⟩ := h1
  exact ⟨p, hp, h2.symm, h3.symm⟩
 obtain ⟨l, hl⟩ := H.lit x hx
 rcases H.K.find w hl ms (fun e he => by
  obtain ⟨j, hj, rfl⟩ := List.getElem_of_mem he
  obtain ⟨p, hp, h2, _⟩ := hat j _ (l17_ hj)
  rw [h2]
  exact H.lit _ (hd p (List.mem_of_getElem? hp))) with ⟨h1, h2⟩ | ⟨j, e0, h1, h2, h3⟩
 ·refine .inl ⟨mget_none.2 fun hm => ?_, h1⟩
  obtain ⟨p, hp, rfl⟩ := List.mem_map.1 hm
  obtain ⟨j, hj, hpj⟩ := List.getElem_of_mem hp
  have hj' : j < ms.length := by omega
  obtain ⟨q, hq, h4, _⟩ := hat j _ (l17_ hj')
  rw [l17_ hj, Option.some.injEq, hpj] at hq
  subst hq
  exact h2 _ (l11_ hj') h4
 ·obtain ⟨p, hp, h4, h5⟩ := hat j e0 h2
  have hpx : p.1 = x := H.inj _ _ (h4.symm.trans h3)
  obtain ⟨y, v⟩ := p
  simp only at hpx
  subst hpx
  refine .inr ⟨v, j, ?_, hp, by rw [h1, h5]⟩
  have hfind : ∀ (es : List (κ × ν)) (j : Nat), (es.map (·.1)).Nodup → es[j]? = some (y, v) → mget y es = some v := by
   intro es
   induction es with
   | nil => intro j _ h; simp at h
   | cons q r ih =>
    intro j hn hj
    cases j with
    | zero =>
     obtain rfl : q = (y, v) := by simpa using hj
     simp [mget]
    | succ j =>
     have hj' : r[j]? = some (y, v) := by simpa using hj
     simp only [List.map_cons, List.nodup_cons] at hn
     have hne : q.1 ≠ y := fun e => hn.1 (e ▸ List.mem_map.2 ⟨(y, v), List.mem_of_getElem? hj', rfl⟩)
     have h6 := ih j hn.2 hj'
     simp only [mget] at h6 ⊢
     rw [List.find?_cons, l3_ hne]
     exact h6
  exact hfind es j hnd hp
theorem MapIs.look (h : MapIs w B enc encV dom es) (H : KeyB P k enc dom) (ht : P.underlying t = some (.map k e)) {z : Value} (hz : (zeroValue e).run P w = .ok z w) {x : κ} (hx : dom x) (c : Bool) :
  (Instr.lookup t (.map (some B)) (enc x) c).run P w = .ok (match mget x es with | some v => if c then .tuple #[encV v, .bool true] else encV v | none => if c then .tuple #[z, .bool false] else z) w := by
 obtain ⟨⟨ms, ck, hb, hms⟩, hnd, hd⟩ := h
 obtain ⟨l, hl⟩ := H.lit x hx
 rcases find_keys H hms hd hx w hnd with ⟨h1, h2⟩ | ⟨v, j, h1, _, h2⟩
 ·rw [h1]
  simp [Instr.lookup, run_underlying ht, MapKept.run_getObj_map hb, H.K.check w _ hl, h2, hz, Result.andThen]
 ·rw [h1]
  simp [Instr.lookup, run_underlying ht, MapKept.run_getObj_map hb, H.K.check w _ hl, h2, Result.andThen]
theorem ents_mput (H : KeyB P k enc dom) (x : κ) (v : ν) : ∀ (es : List (κ × ν)) (j : Nat) (u : ν), es[j]? = some (x, u) → (es.map (·.1)).Nodup → entsOf enc encV (mput x v es) = (entsOf enc encV es).set j (enc x, encV v)
 | [], j, u, h, _ => by simp at h
 | (y, z) :: r, 0, u, h, hn => by
  have h' : y = x ∧ z = u := by simpa using h
  obtain ⟨rfl, rfl⟩ := h'
  simp [mput, entsOf]
 | (y, z) :: r, j + 1, u, h, hn => by
  have hj' : r[j]? = some (x, u) := by simpa using h
  simp only [List.map_cons, List.nodup_cons] at hn
  have hne : ¬ y = x := fun e => hn.1 (e ▸ List.mem_map.2 ⟨(x, u), List.mem_of_getElem? hj', rfl⟩)
  have ih := ents_mput H x v r j u hj' hn.2
  simp only [mput, if_neg hne, entsOf, List.map_cons, l6_]
  exact congrArg _ ih
theorem MapIs.put (h : MapIs w B enc encV dom es) (H : KeyB P k enc dom) (ht : P.underlying t = some (.map k e)) {x : κ} (hx : dom x) (v : ν) :
  ∃ w', (Instr.mapUpdate t (.map (some B)) (enc x) (encV v)).run P w = .ok () w' ∧ MapIs w' B enc encV dom (mput x v es) ∧ w.grownBy w' (some B) := by
 have hlt := h.lt
 obtain ⟨⟨ms, ck, hb, hms⟩, hnd, hd⟩ := h
 obtain ⟨l, hl⟩ := H.lit x hx
 have hkeys : ((mput x v es).map (·.1)).Nodup := by
  rw [mput_keys]
  split
  ·exact hnd
  ·rename_i hx'
   refine List.nodup_append.2 ⟨hnd, by simp, fun a ha b hb' => ?_⟩
   obtain rfl : b = x := by simpa using hb'
   exact fun e => hx' (e ▸ ha)
 have hdoms : ∀ p ∈ mput x v es, dom p.1 := by
  intro p hp
  have h1 : p.1 ∈ (mput x v es).map (·.1) := List.mem_map.2 ⟨p, hp, rfl⟩
  rw [mput_keys] at h1
  have h2 : p.1 ∈ es.map (·.1) ∨ p.1 = x := by
   split at h1
   ·exact .inl h1
   ·rcases List.mem_append.1 h1 with h1 | h1
    ·exact .inl h1
    ·exact .inr (by simpa using h1)
  rcases h2 with h2 | h2
  ·obtain ⟨q, hq, e1⟩ := List.mem_map.1 h2
   rw [← e1]; exact hd q hq
  ·rw [h2]; exact hx
 have hturn : ∀ o : Obj, w.grownBy (setBlock w B o) (some B) := fun o => ⟨rfl, rfl, rfl, by simp [setBlock], fun i hi hne => by
  have hne' : B ≠ i := fun e => hne (by rw [e])
  simp [setBlock, hne']⟩
 rcases find_keys H hms hd hx w hnd with ⟨h1, h2⟩ | ⟨u, j, h1, h3, h2⟩
 ·refine ⟨setBlock w B (.map (ms.push ⟨enc x, encV v, ck⟩) (ck + 1)), ?_, ⟨⟨ms.push ⟨enc x, encV v, ck⟩, ck + 1, by simp [setBlock, hlt], ?_⟩, hkeys, hdoms⟩, hturn _⟩
  ·simp [Instr.mapUpdate, run_underlying ht, MapKept.run_getObj_map hb, H.K.check w false hl, h2, MapKept.run_setObj_map _ hb, Result.andThen, setBlock]
  ·rw [mput_new (mget_none.1 h1), Array.toList_push, List.map_append, hms]
   simp [entsOf]
 ·have hj : j < ms.size := by
   have h4 : (entsOf enc encV es)[j]? = some (enc x, encV u) := by rw [entsOf, List.getElem?_map, h3]; rfl
   rw [← hms] at h4
   have := (List.getElem?_eq_some_iff.1 h4).1
   simpa using this
  have hkey : (ms[j]'hj).key = enc x := by
   have h4 : (entsOf enc encV es)[j]? = some (enc x, encV u) := by rw [entsOf, List.getElem?_map, h3]; rfl
   rw [← hms, List.getElem?_map, l17_ (by simpa using hj)] at h4
   simpa using congrArg Prod.fst (l13_ h4)
  refine ⟨setBlock w B (.map (ms.modify j fun e => { e with key := enc x, val := encV v }) ck), ?_, ⟨⟨ms.modify j fun e => { e with key := enc x, val := encV v }, ck, by simp [setBlock, hlt], ?_⟩, hkeys, hdoms⟩, hturn _⟩
  ·simp [Instr.mapUpdate, run_underlying ht, MapKept.run_getObj_map hb, H.K.check w false hl, h2, MapKept.run_setObj_map _ hb, Result.andThen, setBlock, hj, hkey, H.K.stays w hl]
  ·rw [ents_mput H x v es j u h3 hnd, ← hms]
   apply List.ext_getElem?
   intro i
   by_cases hij : i = j
   ·subst hij
    simp [hj]
   ·simp only [List.getElem?_map, Array.getElem?_toList, List.getElem?_set, Ne.symm hij, if_false]
    rw [Array.getElem?_modify]
    simp [Ne.symm hij]
end
end Go.Proofs.YthflpbgloeimfaaGreatDoorW.PrintWords
namespace Go.Proofs.YthflpbgloeimfaaGreatDoor.H
open Go.RowKit Go.Proofs.YthflpbgloeimfaaGreatDoorW.PrintWords Go.Proofs.YthflpbgloeimfaaGreatDoorW.PrintLast Go.Proofs.YthflpbgloeimfaaGreatDoorW.PrintMore
open Go.Proofs.YthflpbgloeimfaaGreatDoor.Q (S47 k47 rd_T47 z47 at_T47 S50 k50 rd_T50 z50 at_T50 S52 k52 S71 k71 rd_T71 at_T71)
attribute [local go_sem] max2_int min2_int max_two min_two max_three min_three max_four min_four
set_option linter.unusedVariables false
set_option linter.unusedSimpArgs false
theorem sorder_call (t : S47) (A : Option Addr) (c : Nat) (w : World) (hC : Kd.C k47 w A t.f0.length t.f0) (hc : t.f0.length ≤ c) (hn : sN t ≤ 1000000) :
  Calls Tryz.prog 111 #[.agg #[.slice A t.f0.length c]] w fun E w' => E = .returned (.int .i64 (sO t : Int)) ∧ Below w.heap.size w w' := by
 obtain ⟨k, hk⟩ := (order_ev 1000000 t hn (by omega)).rounds
 exact Q.sorts_order.calls k A c t.f0 (sO t : Int) w hC hc hk
theorem srtB_N {t : S47} (h : srtB t = true) : sN t ≤ 60 := by
 unfold srtB at h
 simp only [l19_, l20_] at h
 exact h.1.1
def sOrdV (t : S47) : Int × Int := if srtB t then ((sO t : Int), 0) else (0, 6)
set_option maxHeartbeats 4000000 in
set_option maxRecDepth 100000 in
theorem sOrder_calls (t : S47) (A : Option Addr) (c : Nat) (w : World) (hC : Kd.C k47 w A t.f0.length t.f0) (hc : t.f0.length ≤ c) :
  Calls Tryz.prog 69 #[.agg #[.slice A t.f0.length c]] w fun E w' => E = .returned (.tuple #[.int .i64 (sOrdV t).1, .int .i64 (sOrdV t).2]) ∧ Below w.heap.size w w' := by
 have HS := mk0 fun W (hW : Below w.heap.size w W) => scheck_calls t A c W (Kd.C_below hC hW) hc
 have HO := mk0 fun (h : srtB t = true) W (hW : Below w.heap.size w W) => sorder_call t A c W (Kd.C_below hC hW) hc (by have := srtB_N h; omega)
 have HB := mk0 (aA_ (Below.refl w.heap.size w) (.cells #[.slice A t.f0.length c] 47))
 have HX := mk0 (aU_ w (.cells #[.slice A t.f0.length c] 47))
 clear hC hc
 go_enter Tryz.func69, Tryz.ntmps69
 go_upto_region 1 with (fail)
 generalize w.alloc (.cells #[.slice A t.f0.length c] 47) = W1 at *
 have hb0 : W1.cell? ⟨w.heap.size, 0, none⟩ = some (.slice A t.f0.length c) := (aC_ HX.out 0).trans rfl
 go_wp2_with fail
 refine (HS.out W1 HB.out).mono ?_
 rintro E w2 ⟨rfl, hb⟩
 have HB2 := mk0 (aM_ HB.out (HB.out).size hb)
 have HX2 := mk0 (aK_ HX.out hb)
 clear hb hb0 HS HB HX
 have hb0 : w2.cell? ⟨w.heap.size, 0, none⟩ = some (.slice A t.f0.length c) := (aC_ HX2.out 0).trans rfl
 cases q : srtB t with
 | false =>
  have HV := mk0 (show sOrdV t = (0, 6) by unfold sOrdV; rw [q]; rfl)
  rw [show schkV t = 6 by unfold schkV; rw [q]; rfl]
  clear q
  go_wp2
  go_ret2
  exact ⟨by rw [HV.out]; rfl, HB2.out⟩
 | true =>
  have HV := mk0 (show sOrdV t = ((sO t : Int), 0) by unfold sOrdV; rw [q]; rfl)
  have HO2 := mk0 (HO.out q w2 HB2.out)
  rw [show schkV t = 0 by unfold schkV; rw [q]; rfl]
  clear q
  go_wp2_with fail
  refine (HO2.out).mono ?_
  rintro E w3 ⟨rfl, hb⟩
  have HB3 := mk0 (aM_ HB2.out (HB2.out).size hb)
  clear hb hb0
  go_wp2
  go_ret2
  exact ⟨by rw [HV.out]; rfl, HB3.out⟩
def largeV (t : S50) : Bool := decide (100000 < tN t)
set_option maxHeartbeats 4000000 in
set_option maxRecDepth 100000 in
theorem large_calls (t : S50) (A : Option Addr) (c : Nat) (w : World) (hC : Kd.C k50 w A t.f2.length t.f2) (hc : t.f2.length ≤ c) :
  Calls Tryz.prog 77 #[.agg #[.int .i64 t.f0, .int .i64 t.f1, .slice A t.f2.length c]] w fun E w' => E = .returned (.bool (largeV t)) ∧ Below w.heap.size w w' := by
 have HS := mk0 fun W (hW : Below w.heap.size w W) => tsize_calls t A c W (Kd.C_below hC hW) hc
 have HB := mk0 (aA_ (Below.refl w.heap.size w) (.cells #[.int .i64 t.f0, .int .i64 t.f1, .slice A t.f2.length c] 50))
 have HX := mk0 (aU_ w (.cells #[.int .i64 t.f0, .int .i64 t.f1, .slice A t.f2.length c] 50))
 have HV := mk0 (show largeV t = decide ((tsizeV t).1 > 100000) by
  unfold largeV tsizeV
  by_cases h : tN t ≤ 100000
  ·rw [if_pos h]; exact decide_eq_decide.2 (by simp only; omega)
  ·rw [if_neg h]; exact decide_eq_decide.2 (by simp only; omega))
 clear hC hc
 go_enter Tryz.func77, Tryz.ntmps77
 go_upto_region 1 with (fail)
 generalize w.alloc (.cells #[.int .i64 t.f0, .int .i64 t.f1, .slice A t.f2.length c] 50) = W1 at *
 have hb0 : W1.cell? ⟨w.heap.size, 0, none⟩ = some (.int .i64 t.f0) := (aC_ HX.out 0).trans rfl
 have hb1 : W1.cell? ⟨w.heap.size, 1, none⟩ = some (.int .i64 t.f1) := (aC_ HX.out 1).trans rfl
 have hb2 : W1.cell? ⟨w.heap.size, 2, none⟩ = some (.slice A t.f2.length c) := (aC_ HX.out 2).trans rfl
 go_wp2_with fail
 refine (HS.out W1 HB.out).mono ?_
 rintro E w2 ⟨rfl, hb⟩
 have HB2 := mk0 (aM_ HB.out (HB.out).size hb)
 clear hb hb0 hb1 hb2 HS HB HX
 generalize (tsizeV t).1 = n at *
 go_wp2
 go_ret
 exact ⟨by rw [HV.out]; rfl, HB2.out⟩
theorem tsame_call (a b : S50) (A : Option Addr) (c : Nat) (B : Option Addr) (d : Nat) (w : World) (ha : Kd.C k50 w A a.f2.length a.f2) (hac : a.f2.length ≤ c) (hb : Kd.C k50 w B b.f2.length b.f2) (hbc : b.f2.length ≤ d) (hn : tN a ≤ 1000000) :
  Calls Tryz.prog 113 #[.agg #[.int .i64 a.f0, .int .i64 a.f1, .slice A a.f2.length c], .agg #[.int .i64 b.f0, .int .i64 b.f1, .slice B b.f2.length d]] w fun E w' => E = .returned (.bool (tE a b)) ∧ Below w.heap.size w w' := by
 obtain ⟨k, hk⟩ := (tsame_ev 1000000 a b hn (by omega)).rounds
 exact Q.term_same.calls k a.f0 a.f1 A c a.f2 b.f0 b.f1 B d b.f2 (tE a b) w ha hac hb hbc hk
def tSameV (a b : S50) : Bool := !largeV a && !largeV b && tE a b
set_option maxHeartbeats 4000000 in
set_option maxRecDepth 100000 in
theorem tSame_calls (a b : S50) (A : Option Addr) (c : Nat) (B : Option Addr) (d : Nat) (w : World) (ha : Kd.C k50 w A a.f2.length a.f2) (hac : a.f2.length ≤ c) (hb : Kd.C k50 w B b.f2.length b.f2) (hbc : b.f2.length ≤ d) :
  Calls Tryz.prog 75 #[.agg #[.int .i64 a.f0, .int .i64 a.f1, .slice A a.f2.length c], .agg #[.int .i64 b.f0, .int .i64 b.f1, .slice B b.f2.length d]] w fun E w' => E = .returned (.bool (tSameV a b)) ∧ Below w.heap.size w w' := by
 have H1 := mk0 fun W (hW : Below w.heap.size w W) => large_calls a A c W (Kd.C_below ha hW) hac
 have H2 := mk0 fun W (hW : Below w.heap.size w W) => large_calls b B d W (Kd.C_below hb hW) hbc
 have H3 := mk0 fun (h : largeV a = false) W (hW : Below w.heap.size w W) => tsame_call a b A c B d W (Kd.C_below ha hW) hac (Kd.C_below hb hW) hbc (by
  unfold largeV at h
  have := of_decide_eq_false h
  omega)
 have HB := mk0 (aA_ (aA_ (Below.refl w.heap.size w) (.cells #[.int .i64 a.f0, .int .i64 a.f1, .slice A a.f2.length c] 50)) (.cells #[.int .i64 b.f0, .int .i64 b.f1, .slice B b.f2.length d] 50))
 have HX := mk0 (aD_ (aU_ w (.cells #[.int .i64 a.f0, .int .i64 a.f1, .slice A a.f2.length c] 50)) (.cells #[.int .i64 b.f0, .int .i64 b.f1, .slice B b.f2.length d] 50))
 have HY := mk0 (blk_at2 w (.cells #[.int .i64 a.f0, .int .i64 a.f1, .slice A a.f2.length c] 50) (.cells #[.int .i64 b.f0, .int .i64 b.f1, .slice B b.f2.length d] 50))
 have HV := mk0 (show tSameV a b = (!largeV a && !largeV b && tE a b) from rfl)
 clear ha hac hb hbc
 go_enter Tryz.func75, Tryz.ntmps75
 go_upto_region 1 with (fail)
 generalize (w.alloc (.cells #[.int .i64 a.f0, .int .i64 a.f1, .slice A a.f2.length c] 50)).alloc (.cells #[.int .i64 b.f0, .int .i64 b.f1, .slice B b.f2.length d] 50) = W1 at *
 have cells : ∀ W : World, W.heap[w.heap.size]? = some (.cells #[.int .i64 a.f0, .int .i64 a.f1, .slice A a.f2.length c] 50 (0, 0)) → W.heap[w.heap.size + 1]? = some (.cells #[.int .i64 b.f0, .int .i64 b.f1, .slice B b.f2.length d] 50 (0, 0)) →
   (W.cell? ⟨w.heap.size, 0, none⟩ = some (.int .i64 a.f0) ∧ W.cell? ⟨w.heap.size, 1, none⟩ = some (.int .i64 a.f1) ∧ W.cell? ⟨w.heap.size, 2, none⟩ = some (.slice A a.f2.length c)) ∧ W.cell? ⟨w.heap.size + 1, 0, none⟩ = some (.int .i64 b.f0) ∧ W.cell? ⟨w.heap.size + 1, 1, none⟩ = some (.int .i64 b.f1) ∧ W.cell? ⟨w.heap.size + 1, 2, none⟩ = some (.slice B b.f2.length d) := fun W h1 h2 =>
  ⟨⟨(aC_ h1 0).trans rfl, (aC_ h1 1).trans rfl, (aC_ h1 2).trans rfl⟩, (aC_ h2 0).trans rfl, (aC_ h2 1).trans rfl, (aC_ h2 2).trans rfl⟩
 have HCE := mk0 cells
 clear cells
 obtain ⟨⟨a0, a1, a2⟩, b0, b1, b2⟩ := HCE.out W1 HX.out HY.out
 go_wp2_with fail
 refine (H1.out W1 HB.out).mono ?_
 rintro E w2 ⟨rfl, hb⟩
 have HB2 := mk0 (aM_ HB.out (HB.out).size hb)
 have HX2 := mk0 (aK_ HX.out hb)
 have HY2 := mk0 (aK_ HY.out hb)
 clear hb a0 a1 a2 b0 b1 b2 HB HX HY
 cases q1 : largeV a with
 | true =>
  rw [q1] at HV
  go_wp2
  go_ret
  exact ⟨by rw [HV.out]; rfl, HB2.out⟩
 | false =>
 have HQ1 := mk0 q1
 rw [q1] at HV
 clear q1
 obtain ⟨⟨a0, a1, a2⟩, b0, b1, b2⟩ := HCE.out w2 HX2.out HY2.out
 go_wp2_with fail
 refine (H2.out w2 HB2.out).mono ?_
 rintro E w3 ⟨rfl, hb⟩
 have HB3 := mk0 (aM_ HB2.out (HB2.out).size hb)
 have HX3 := mk0 (aK_ HX2.out hb)
 have HY3 := mk0 (aK_ HY2.out hb)
 clear hb a0 a1 a2 b0 b1 b2 HB2 HX2 HY2
 cases q2 : largeV b with
 | true =>
  rw [q2] at HV
  go_wp2
  go_ret
  exact ⟨by rw [HV.out]; rfl, HB3.out⟩
 | false =>
 rw [q2] at HV
 clear q2
 obtain ⟨⟨a0, a1, a2⟩, b0, b1, b2⟩ := HCE.out w3 HX3.out HY3.out
 go_wp2_with fail
 refine (H3.out HQ1.out w3 HB3.out).mono ?_
 rintro E w4 ⟨rfl, hb⟩
 have HB4 := mk0 (aM_ HB3.out (HB3.out).size hb)
 clear hb a0 a1 a2 b0 b1 b2
 go_wp2
 go_ret
 exact ⟨by rw [HV.out]; rfl, HB4.out⟩
theorem name_calls (s : ByteArray) (w : World) : Calls Tryz.prog 39 #[.string s] w fun E w' => E = .returned (.bool (nameB s)) ∧ Below w.heap.size w w' := by
 obtain ⟨k, hk⟩ := (tname_ev s).rounds
 exact (Q.term_Name.calls k s (nameB s) w hk).mono fun e w' ⟨h1, h2⟩ => ⟨h1, h2.below⟩
theorem rname_calls (s : ByteArray) (w : World) : Calls Tryz.prog 64 #[.string s] w fun E w' => E = .returned (.bool (nameB s)) ∧ Below w.heap.size w w' := by
 obtain ⟨k, hk⟩ := (rname_ev s).rounds
 exact (Q.virgationref02_Name.calls k s (nameB s) w hk).mono fun e w' ⟨h1, h2⟩ => ⟨h1, h2.below⟩
theorem nameB_size {s : ByteArray} (h : nameB s = true) : s.size ≤ 24 := by
 unfold nameB nameL at h
 simp only [l19_, l20_] at h
 exact h.1.1.2
def sdom (s : ByteArray) : Prop := s.size ≤ maxLen
theorem keyStr : KeyB Tryz.prog 9 Value.string sdom where
 K := Go.Maps.string_keyed Tryz.underlying9
 lit := fun _ h => ⟨_, Go.WideMaps.keyOf_string_mk Tryz.underlying9 h⟩
 inj := fun x y h => by cases h; rfl
theorem zero4 (w : World) : (zeroValue 4).run Tryz.prog w = .ok (.bool false) w := by kernel_rfl
theorem zero3 (w : World) : (zeroValue 3).run Tryz.prog w = .ok (.int .i64 0) w := by kernel_rfl
def tru (ns : List ByteArray) : List (ByteArray × Bool) := ns.map fun s => (s, true)
theorem tru_keys (ns : List ByteArray) : (tru ns).map (·.1) = ns := by unfold tru; simp [Function.comp_def]
theorem mget_tru_not {ns : List ByteArray} {x : ByteArray} (h : x ∉ ns) : mget x (tru ns) = none := mget_none.2 (by rw [tru_keys]; exact h)
theorem mget_tru_mem {ns : List ByteArray} {x : ByteArray} (h : x ∈ ns) : mget x (tru ns) = some true := by
 induction ns with
 | nil => cases h
 | cons a r ih =>
  unfold tru mget at ih ⊢
  rw [List.map_cons, List.find?_cons]
  by_cases e : a = x
  ·subst e; simp
  ·simp only [l3_ e]
   rcases List.mem_cons.1 h with rfl | h
   ·exact absurd rfl e
   ·exact ih h
theorem name_dom {s : ByteArray} (h : nameB s = true) : sdom s := by
 have := nameB_size h
 unfold sdom maxLen
 omega
def symOk (x : S71) : Bool := nameB x.f0 && decide (0 ≤ x.f1) && decide (x.f1 ≤ 4)
def symsB (l : List S71) : Bool := l.all symOk && decide ((l.map (·.f0)).Nodup) && decide (l.length ≤ 24)
theorem symsB_bad {l : List S71} {x : S71} (hx : x ∈ l) (h : symOk x = false) : symsB l = false := by
 have : l.all symOk = false := by
  cases e : l.all symOk with
  | false => rfl
  | true => rw [List.all_eq_true.1 e x hx] at h; cases h
 unfold symsB
 rw [this]; rfl
theorem nodup_take_bad {α : Type} {l : List α} {j : Nat} (h : j < l.length) (hm : l[j] ∈ l.take j) : ¬ l.Nodup := by
 intro hn
 rw [← List.take_append_drop j l, dropS h] at hn
 exact (List.nodup_append.1 hn).2.2 _ hm _ (List.mem_cons_self ..) rfl
theorem symsB_twice {l : List S71} {j : Nat} (h : j < l.length) (hm : l[j].f0 ∈ (l.take j).map (·.f0)) : symsB l = false := by
 have : ¬ (l.map (·.f0)).Nodup := by
  have h1 : j < (l.map (·.f0)).length := by simpa using h
  refine nodup_take_bad h1 ?_
  rw [← List.map_take]
  simpa using hm
 unfold symsB
 rw [l3_ this]
 simp
theorem symsB_all {l : List S71} (h1 : ∀ x ∈ l, symOk x = true) (h2 : (l.map (·.f0)).Nodup) : symsB l = decide (l.length ≤ 24) := by
 unfold symsB
 rw [List.all_eq_true.2 h1, l2_ h2]; rfl
theorem rdY_at {l : List S71} {j : Nat} (h : j < l.length) : rd_T71 l (j : Int) = l[j] := by simp [rd_T71, l18_, l17_ h]
set_option maxHeartbeats 8000000 in
set_option maxRecDepth 100000 in
theorem tsyms_calls (l : List S71) (A : Option Addr) (c : Nat) (w : World) (hC : Kd.C k71 w A l.length l) (hl : l.length ≤ 1000000) :
  Calls Tryz.prog 38 #[.slice A l.length c] w fun E w' => E = .returned (.bool (symsB l)) ∧ Below w.heap.size w w' := by
 have hmm := @run_makeMap Tryz.prog
 have HLEN := mk0 hl
 have HC := mk0 hC
 have HM0 := mk0 (mapIs_new w Value.string Value.bool sdom)
 have HB0 := mk0 (aA_ (Below.refl w.heap.size w) (.map #[] 0))
 clear hC hl
 go_enter Tryz.func38, Tryz.ntmps38
 go_upto_region 2 with (fail)
 generalize w.alloc (.map #[] 0) = W1 at *
 go_wp2
 clear hmm
 go_loopg [9] l.length (fun gg v9 wi => ∃ (j : Nat), j ≤ l.length ∧ l.length - j ≤ gg ∧ v9 = .int .i64 j ∧ Aside0 (Below w.heap.size w wi) ∧ Aside0 (MapIs wi w.heap.size Value.string Value.bool sdom (tru ((l.take j).map (·.f0)))) ∧ Aside0 (∀ x ∈ l.take j, symOk x = true))
 case atStart => exact ⟨0, by omega, by omega, rfl, HB0, HM0, ⟨fun x hx => by simp at hx⟩⟩
 case round =>
  clear HB0 HM0
  obtain ⟨j, hj, hgg, rfl, HB, HM, HOK⟩ := hrel
  by_cases hlt : j < l.length
  ·have hltz : (j : Int) < (l.length : Int) := by omega
   obtain ⟨ad, e, hx0, hx1⟩ := at_T71 HC.out (j : Int) (by omega) hltz
   subst e
   rw [rdY_at hlt] at hx0 hx1
   rw [l14_] at hx0 hx1
   replace hx0 := ((HB.out).cell (l1_ w _ hx0)).trans hx0
   replace hx1 := ((HB.out).cell (l1_ w _ hx1)).trans hx1
   have HBAD := mk0 (fun h => symsB_bad (l11_ hlt) h)
   have HTW := mk0 (fun h => symsB_twice hlt h)
   have HTK := mk0 (takeS hlt)
   generalize l[j] = u at *
   go_upto_region 5 with (fail)
   have HB5 := mk0 (aA_ HB.out (.cells #[.string u.f0, .int .i64 u.f1] 71))
   have HX5 := mk0 (aU_ wr (.cells #[.string u.f0, .int .i64 u.f1] 71))
   have HM5 := mk0 (HM.out.below (aA_ (Below.refl _ _) (.cells #[.string u.f0, .int .i64 u.f1] 71)))
   clear HB HM hx0 hx1
   generalize (wr.alloc (.cells #[.string u.f0, .int .i64 u.f1] 71)) = w5 at *
   generalize wr.heap.size = b7 at *
   have hb0 : w5.cell? ⟨b7, 0, none⟩ = some (.string u.f0) := (aC_ HX5.out 0).trans rfl
   go_wp2_with fail
   refine (name_calls u.f0 w5).mono ?_
   rintro E w6 ⟨rfl, hb⟩
   have HB6 := mk0 (aM_ HB5.out (HB5.out).size hb)
   have HX6 := mk0 (aK_ HX5.out hb)
   have HM6 := mk0 (HM5.out.below hb)
   clear hb hb0 HB5 HX5 HM5
   cases q : nameB u.f0 with
   | false =>
    have HF := mk0 (HBAD.out (by unfold symOk; rw [q]; rfl))
    clear q
    go_wp2
    go_ret
    exact ⟨by rw [HF.out]; rfl, HB6.out⟩
   | true =>
   have HN := mk0 q
   clear q
   have hb0 : w6.cell? ⟨b7, 0, none⟩ = some (.string u.f0) := (aC_ HX6.out 0).trans rfl
   have hb1 : w6.cell? ⟨b7, 1, none⟩ = some (.int .i64 u.f1) := (aC_ HX6.out 1).trans rfl
   have hl := MapIs.look HM6.out keyStr Tryz.underlying59 (zero4 w6) (name_dom HN.out) false
   by_cases hm : u.f0 ∈ (l.take j).map (·.f0)
   ·rw [mget_tru_mem hm] at hl
    simp only [Bool.false_eq_true, if_false] at hl
    have HF := mk0 (HTW.out hm)
    clear hm
    go_wp2
    go_ret
    exact ⟨by rw [HF.out]; rfl, HB6.out⟩
   have HNM := mk0 hm
   rw [mget_tru_not hm] at hl
   simp only [Bool.false_eq_true, if_false] at hl
   clear hm
   by_cases h1 : u.f1 < 0
   ·have HF := mk0 (HBAD.out (by unfold symOk; rw [l3_ (show ¬ 0 ≤ u.f1 by omega)]; simp))
    go_wp2
    go_ret
    exact ⟨by rw [HF.out]; rfl, HB6.out⟩
   by_cases h2 : u.f1 > 4
   ·have HF := mk0 (HBAD.out (by unfold symOk; rw [l3_ (show ¬ u.f1 ≤ 4 by omega)]; simp))
    go_wp2
    go_ret
    exact ⟨by rw [HF.out]; rfl, HB6.out⟩
   have HOU := mk0 (show symOk u = true by unfold symOk; rw [HN.out, l2_ (show 0 ≤ u.f1 by omega), l2_ (show u.f1 ≤ 4 by omega)]; rfl)
   obtain ⟨w7, hput, HM7, hg7⟩ := MapIs.put HM6.out keyStr Tryz.underlying59 (name_dom HN.out) true
   rw [mput_new (by rw [tru_keys]; exact HNM.out)] at HM7
   have HM7 := mk0 (show MapIs w7 w.heap.size Value.string Value.bool sdom (tru ((l.take (j + 1)).map (·.f0))) by rw [HTK.out, List.map_append]; unfold tru at HM7 ⊢; rw [List.map_append]; exact HM7)
   have HB7 := mk0 (pw_below_grown HB6.out _ (HB6.out).size hg7 (fun k hk => by cases hk; exact Nat.le_refl _))
   have HA7 := mk0 (show ∀ x ∈ l.take (j + 1), symOk x = true from fun x hx => by
    rw [HTK.out] at hx
    rcases List.mem_append.1 hx with hx | hx
    ·exact HOK.out x hx
    ·obtain rfl := List.mem_singleton.1 hx; exact HOU.out)
   clear hg7
   go_wp2
   go_roundg (l.length - (j + 1))
   case measure => omega
   case rel => exact ⟨j + 1, by omega, by omega, by rw [wrap_succ (by omega) (by have := HLEN.out; omega)]; rfl, HB7, HM7, HA7⟩
  ·have hltz : ¬ (j : Int) < (l.length : Int) := by omega
   have hje : j = l.length := by omega
   subst hje
   rw [List.take_length] at HM HOK
   have HV := mk0 (symsB_all HOK.out (by have := (HM.out).2.1; rw [tru_keys] at this; exact this))
   go_wp2
   go_ret
   exact ⟨by rw [HV.out, show decide ((l.length : Int) ≤ 24) = decide (l.length ≤ 24) from decide_eq_decide.2 (by omega)]; rfl, HB.out⟩
end Go.Proofs.YthflpbgloeimfaaGreatDoor.H
namespace Go.Proofs.YthflpbgloeimfaaGreatDoor.H
open Go.RowKit Go.Proofs.YthflpbgloeimfaaGreatDoorW.PrintWords Go.Proofs.YthflpbgloeimfaaGreatDoorW.PrintLast Go.Proofs.YthflpbgloeimfaaGreatDoorW.PrintMore
open Go.Proofs.YthflpbgloeimfaaGreatDoor.Q (S47 k47 rd_T47 z47 at_T47 S50 k50 rd_T50 z50 at_T50 S52 k52 S71 k71 rd_T71 at_T71 rd_T52 at_T52 z52)
set_option linter.unusedVariables false
set_option linter.unusedSimpArgs false
theorem aQ_ {P : Program} {fn : Func} {p u : Tmp} {ty : TypeId} (h : fn.results = #[.cell p ty, .tmp u]) (tmps : Array Value) (w : World) (g : Nat) (t : TypeId) (cs : Array Value) (fr : Nat × Nat) (d : TypeDesc)
  (hp : tmps.getD p undef = .pointer (some ⟨g, 0, none⟩)) (hg : w.heap[g]? = some (.cells cs t fr))
  (hu : P.underlying ty = some d) (hd : (match d with | .struct _ | .array _ _ => true | _ => false) = true) (hi : (P.info? ty).map (·.size) = some cs.size) :
  (results fn tmps).run P w = .ok (.tuple #[.agg cs, tmps.getD u undef]) w := by
 rw [results_cell_tmp h, hp]
 simp only [asAddr, Sem.run_pure, Result.andThen_ok, run_loadVar_row w g t ty cs fr d hg hu hd hi]
theorem made_rep (z : Value) (n : Nat) : madeCells #[z] n = Array.replicate n z := by
 apply Array.ext
 ·simp [madeCells]
 ·intro i h1 h2
  simp [madeCells, Nat.mod_one]
theorem mk47 (n : Nat) (hn : n ≤ 1000) (W : World) : (Instr.makeSlice 43 (.int .i64 (n : Int)) (.int .i64 (n : Int))).run Tryz.prog W = .ok (.slice (some ⟨W.heap.size, 0, none⟩) n n) (W.alloc (.cells (madeCells #[.slice none 0 0] n) 47)) := by
 obtain ⟨i, hi, hzz⟩ := Option.map_eq_some_iff.1 Q.info47
 simp only [Prod.mk.injEq] at hzz
 obtain ⟨hz, hs, hb⟩ := hzz
 have hr := run_make (P := Tryz.prog) W 43 47 i (.agg #[.slice none 0 0]) Tryz.underlying43 hi hz .i64 .i64 n n (by omega) (Int.le_refl _) (by rw [hb]; omega) (by omega)
 simp only [l14_, hs, Nat.mul_one] at hr
 exact hr
theorem C_nil47 (w : World) : Kd.C k47 w none 0 [] := ⟨rfl, by simp, fun h => absurd h (by simp)⟩
theorem C_made {W : World} {g off n m : Nat} (hn : off + n ≤ m) (hm : m ≤ 1000) (hg : W.heap[g]? = some (.cells (madeCells #[.slice none 0 0] m) 47 (0, 0))) : Kd.C k47 W (some ⟨g, off, none⟩) n (List.replicate n ⟨[]⟩) := by
 refine ⟨List.length_replicate, by omega, fun _ => ⟨_, rfl, fun j p hj => ?_⟩⟩
 obtain ⟨hjl, hjp⟩ := List.getElem?_eq_some_iff.1 hj
 have hjn : j < n := by simpa using hjl
 rw [List.getElem_replicate] at hjp
 subst hjp
 refine ⟨[.slice none 0 0], rfl, Q.k47_mk _ ⟨[]⟩ (A0 := none) (c0 := 0) (Nat.le_refl _) (C_nil47 _), fun i u hu => ?_⟩
 have hi : i = 0 := by
  have := (List.getElem?_eq_some_iff.1 hu).1
  simpa using this
 subst hi
 obtain rfl : Value.slice none 0 0 = u := by simpa using hu
 have h1 := aC_ hg (off + j)
 have e : (Addr.add ⟨g, off, none⟩ (j * k47.sz + 0)) = ⟨g, off + j, none⟩ := by
  rw [show k47.sz = 1 from rfl, Nat.mul_one, Nat.add_zero]
  unfold Addr.add
  split
  ·rename_i h; subst h; rfl
  ·rfl
 rw [e, h1, made_rep, Array.getElem?_eq_getElem (by rw [Array.size_replicate]; omega), Array.getElem_replicate]
def headV (sy : List S71) (fu pa : List S47) (k n : Int) : Option (List S47) :=
 if n < 0 then none
 else if k = 0 then (if n < (pa.length : Int) then some (rd_T47 pa n).f0 else none)
 else if k = 1 then (if n < (fu.length : Int) then some (rd_T47 fu n).f0 else none)
 else if k = 2 then (if n < (sy.length : Int) then some (List.replicate (rd_T71 sy n).f1.toNat ⟨[]⟩) else none)
 else none
def SX (w0 w W : World) (A : Option Addr) (s : List S47) : Prop :=
 Kd.C k47 w0 A s.length s ∨ ∃ g off m : Nat, A = some ⟨g, off, none⟩ ∧ s = List.replicate s.length ⟨[]⟩ ∧ off + s.length ≤ m ∧ m ≤ 1000 ∧ w.heap.size ≤ g ∧ W.heap[g]? = some (.cells (madeCells #[.slice none 0 0] m) 47 (0, 0))
theorem SX.below {w0 w W W1 : World} {A : Option Addr} {s : List S47} (h : SX w0 w W A s) (hb : Below W.heap.size W W1) : SX w0 w W1 A s := by
 rcases h with h | ⟨g, off, m, h1, h2, h3, h4, h5, h6⟩
 ·exact .inl h
 ·exact .inr ⟨g, off, m, h1, h2, h3, h4, h5, aK_ h6 hb⟩
theorem SX.far {w0 w W : World} {A : Option Addr} {s : List S47} (h : SX w0 w W A s) {p : Addr} (hp : p.block < w.heap.size) (u : Value) : SX w0 w (W.setCell p u) A s := by
 rcases h with h | ⟨g, off, m, h1, h2, h3, h4, h5, h6⟩
 ·exact .inl h
 ·exact .inr ⟨g, off, m, h1, h2, h3, h4, h5, aT_ h6 (by omega) u⟩
theorem SX.lower {w0 w w1 W : World} {A : Option Addr} {s : List S47} (h : SX w0 w W A s) (hw : w1.heap.size ≤ w.heap.size) : SX w0 w1 W A s := by
 rcases h with h | ⟨g, off, m, h1, h2, h3, h4, h5, h6⟩
 ·exact .inl h
 ·exact .inr ⟨g, off, m, h1, h2, h3, h4, by omega, h6⟩
def SrtE (w0 : World) (v : Option (List S47)) (w : World) (E : Ending) (w' : World) : Prop :=
 Below w.heap.size w w' ∧ (v = none ∧ E = .returned (.tuple #[.agg #[.slice none 0 0], .bool false]) ∨ ∃ (s : List S47) (A : Option Addr) (c : Nat), v = some s ∧ E = .returned (.tuple #[.agg #[.slice A s.length c], .bool true]) ∧ s.length ≤ c ∧ SX w0 w w' A s)
theorem blk_at3 (w : World) (o o' o2 : Obj) : (((w.alloc o).alloc o').alloc o2).heap[w.heap.size + 2]? = some o2 := by
 have h := aU_ ((w.alloc o).alloc o') o2
 rwa [show ((w.alloc o).alloc o').heap.size = w.heap.size + 2 from by simp] at h
theorem SX.C {w0 w W : World} {A : Option Addr} {s : List S47} (h : SX w0 w W A s) (hb : Below w0.heap.size w0 W) : Kd.C k47 W A s.length s := by
 rcases h with h | ⟨g, off, m, rfl, h2, h3, h4, h5, h6⟩
 ·exact Kd.C_below h hb
 ·rw [h2, List.length_replicate]
  exact C_made h3 h4 h6
theorem SX.drop {w0 w W : World} {A : Option Addr} {s : List S47} (h : SX w0 w W A s) {m c : Nat} (hm : m ≤ s.length) (hc : s.length ≤ c) : SX w0 w W (if c = m then A else A.map (·.add m)) (s.drop m) := by
 rcases h with h | ⟨g, off, k, rfl, h2, h3, h4, h5, h6⟩
 ·refine .inl ?_
  have := Kd.C_drop (k := k47) (c := c) h hm hc
  rwa [show m * k47.sz = m from by rw [show k47.sz = 1 from rfl, Nat.mul_one]] at this
 ·refine .inr ?_
  have e : s.drop m = List.replicate (s.drop m).length ⟨[]⟩ := by
   rw [l9_]
   conv => lhs; rw [h2]
   rw [List.drop_replicate]
  by_cases hcm : c = m
  ·rw [if_pos hcm]
   exact ⟨g, off, k, rfl, e, by rw [l9_]; omega, h4, h5, h6⟩
  ·rw [if_neg hcm]
   refine ⟨g, off + m, k, ?_, e, by rw [l9_]; omega, h4, h5, h6⟩
   simp only [Option.map_some]
   congr 1
   unfold Addr.add
   split
   ·rename_i h; subst h; rfl
   ·rfl
structure PB3 (w W : World) (s1 s2 s3 x y z r : Value) : Prop where
 hb : Below w.heap.size w W
 h0 : W.heap[w.heap.size]? = some (.cells #[s1, s2, s3] 45 (0, 0))
 h1 : W.heap[w.heap.size + 1]? = some (.cells #[x, y, z] 50 (0, 0))
 h2 : W.heap[w.heap.size + 2]? = some (.cells #[r] 47 (0, 0))
theorem PB3.start (w : World) (s1 s2 s3 x y z r : Value) : PB3 w (((w.alloc (.cells #[s1, s2, s3] 45)).alloc (.cells #[x, y, z] 50)).alloc (.cells #[r] 47)) s1 s2 s3 x y z r :=
 ⟨aA_ (aA_ (aA_ (Below.refl _ _) _) _) _, aD_ (aD_ (aU_ w _) _) _, aD_ (blk_at2 w _ _) _, blk_at3 w _ _ _⟩
theorem PB3.below {w W W1 : World} {s1 s2 s3 x y z r : Value} (h : PB3 w W s1 s2 s3 x y z r) (hb : Below W.heap.size W W1) : PB3 w W1 s1 s2 s3 x y z r :=
 ⟨aM_ h.hb h.hb.size hb, aK_ h.h0 hb, aK_ h.h1 hb, aK_ h.h2 hb⟩
theorem PB3.set {w W : World} {s1 s2 s3 x y z r : Value} (h : PB3 w W s1 s2 s3 x y z r) (u : Value) : PB3 w (W.setCell ⟨w.heap.size + 2, 0, none⟩ u) s1 s2 s3 x y z u :=
 ⟨h.hb.setCell (p := ⟨w.heap.size + 2, 0, none⟩) (by show w.heap.size ≤ w.heap.size + 2; omega) _, aT_ h.h0 (by show w.heap.size ≠ w.heap.size + 2; omega) _, aT_ h.h1 (by show w.heap.size + 1 ≠ w.heap.size + 2; omega) _, blk_set h.h2 0 u⟩
theorem PB3.cells {w W : World} {s1 s2 s3 x y z r : Value} (h : PB3 w W s1 s2 s3 x y z r) : (W.cell? ⟨w.heap.size, 0, none⟩ = some s1 ∧ W.cell? ⟨w.heap.size, 1, none⟩ = some s2 ∧ W.cell? ⟨w.heap.size, 2, none⟩ = some s3) ∧ (W.cell? ⟨w.heap.size + 1, 0, none⟩ = some x ∧ W.cell? ⟨w.heap.size + 1, 1, none⟩ = some y ∧ W.cell? ⟨w.heap.size + 1, 2, none⟩ = some z) ∧ W.cell? ⟨w.heap.size + 2, 0, none⟩ = some r ∧ W.frozen? ⟨w.heap.size + 2, 0, none⟩ = false :=
 ⟨⟨(aC_ h.h0 0).trans rfl, (aC_ h.h0 1).trans rfl, (aC_ h.h0 2).trans rfl⟩, ⟨(aC_ h.h1 0).trans rfl, (aC_ h.h1 1).trans rfl, (aC_ h.h1 2).trans rfl⟩, (aC_ h.h2 0).trans rfl, aJ_ h.h2 0⟩
set_option maxHeartbeats 8000000 in
set_option maxRecDepth 100000 in
theorem head_calls (sy : List S71) (fu pa : List S47) (t : S50) (A1 A2 A3 A : Option Addr) (c1 c2 c3 c : Nat) (w0 w : World) (h1 : Kd.C k71 w0 A1 sy.length sy) (h2 : Kd.C k47 w0 A2 fu.length fu) (h3 : Kd.C k47 w0 A3 pa.length pa) (hB : Below w0.heap.size w0 w)
  (hrk : ∀ x ∈ sy, 0 ≤ x.f1 ∧ x.f1 ≤ 8) :
  Calls Tryz.prog 116 #[.agg #[.slice A1 sy.length c1, .slice A2 fu.length c2, .slice A3 pa.length c3], .agg #[.int .i64 t.f0, .int .i64 t.f1, .slice A t.f2.length c]] w (SrtE w0 (headV sy fu pa t.f0 t.f1) w) := by
 obtain ⟨k, n, l⟩ := t
 have H1 := mk0 h1
 have H2 := mk0 h2
 have H3 := mk0 h3
 have HRK := mk0 hrk
 have HP := mk0 (PB3.start w (.slice A1 sy.length c1) (.slice A2 fu.length c2) (.slice A3 pa.length c3) (.int .i64 k) (.int .i64 n) (.slice A l.length c) (.slice none 0 0))
 have HB0 := mk0 (aM_ hB hB.size (HP.out).hb)
 clear h1 h2 h3 hrk hB
 have HNO := mk0 (fun (W : World) (E : Ending) (hv : headV sy fu pa k n = none) (hE : E = .returned (.tuple #[.agg #[.slice none 0 0], .bool false])) (hb : Below w.heap.size w W) => (show SrtE w0 (headV sy fu pa k n) w E W from ⟨hb, .inl ⟨hv, hE⟩⟩))
 show Calls Tryz.prog 116 #[.agg #[.slice A1 sy.length c1, .slice A2 fu.length c2, .slice A3 pa.length c3], .agg #[.int .i64 k, .int .i64 n, .slice A l.length c]] w (SrtE w0 (headV sy fu pa k n) w)
 go_enter Tryz.func116, Tryz.ntmps116
 go_upto_region 1 with (fail)
 generalize ((w.alloc (.cells #[.slice A1 sy.length c1, .slice A2 fu.length c2, .slice A3 pa.length c3] 45)).alloc (.cells #[.int .i64 k, .int .i64 n, .slice A l.length c] 50)).alloc (.cells #[.slice none 0 0] 47) = W1 at *
 obtain ⟨⟨p0, p1, p2⟩, ⟨q0, q1, q2⟩, r0, r1⟩ := (HP.out).cells
 by_cases hn : n < 0
 ·have HV := mk0 (show headV sy fu pa k n = none from if_pos hn)
  have HP2 := mk0 ((HP.out).set (.slice none 0 0))
  go_wp2
  refine bodyPost_ret (aQ_ rfl _ _ (w.heap.size + 2) 47 #[.slice none 0 0] (0, 0) _ rfl (HP2.out).h2 Tryz.underlying47 rfl (by kernel_rfl)) rfl ?_
  exact HNO.out _ _ HV.out rfl (HP2.out).hb
 have hV0 : headV sy fu pa k n = if k = 0 then (if n < (pa.length : Int) then some (rd_T47 pa n).f0 else none) else if k = 1 then (if n < (fu.length : Int) then some (rd_T47 fu n).f0 else none) else if k = 2 then (if n < (sy.length : Int) then some (List.replicate (rd_T71 sy n).f1.toNat ⟨[]⟩) else none) else none := if_neg hn
 have HV0 := mk0 hV0
 clear hV0
 by_cases hk0 : k = 0
 ·by_cases hl : n < (pa.length : Int)
  ·obtain ⟨ad, A0, c0, e, hx0, hl0, hC0⟩ := at_T47 (H3.out) n (by omega) hl
   subst e
   replace hx0 := ((HB0.out).cell (l1_ w0 _ hx0)).trans hx0
   have HV := mk0 (show headV sy fu pa k n = some (rd_T47 pa n).f0 by rw [HV0.out, if_pos hk0, if_pos hl])
   have HL := mk0 hl0
   have HC := mk0 hC0
   generalize (rd_T47 pa n).f0 = s at *
   have HP2 := mk0 ((HP.out).set (.slice A0 s.length c0))
   have hnn : 0 ≤ n := by omega
   subst hk0
   clear hl0 hC0 hn
   go_wp2
   refine bodyPost_ret (aQ_ rfl _ _ (w.heap.size + 2) 47 #[.slice A0 s.length c0] (0, 0) _ rfl (HP2.out).h2 Tryz.underlying47 rfl (by kernel_rfl)) rfl ?_
   exact ⟨(HP2.out).hb, .inr ⟨s, A0, c0, HV.out, rfl, HL.out, .inl HC.out⟩⟩
  ·have HV := mk0 (show headV sy fu pa k n = none by rw [HV0.out, if_pos hk0, if_neg hl])
   have HP2 := mk0 ((HP.out).set (.slice none 0 0))
   subst hk0
   go_wp2
   refine bodyPost_ret (aQ_ rfl _ _ (w.heap.size + 2) 47 #[.slice none 0 0] (0, 0) _ rfl (HP2.out).h2 Tryz.underlying47 rfl (by kernel_rfl)) rfl ?_
   exact HNO.out _ _ HV.out rfl (HP2.out).hb
 by_cases hk1 : k = 1
 ·by_cases hl : n < (fu.length : Int)
  ·obtain ⟨ad, A0, c0, e, hx0, hl0, hC0⟩ := at_T47 (H2.out) n (by omega) hl
   subst e
   replace hx0 := ((HB0.out).cell (l1_ w0 _ hx0)).trans hx0
   have HV := mk0 (show headV sy fu pa k n = some (rd_T47 fu n).f0 by rw [HV0.out, if_neg hk0, if_pos hk1, if_pos hl])
   have HL := mk0 hl0
   have HC := mk0 hC0
   generalize (rd_T47 fu n).f0 = s at *
   have HP2 := mk0 ((HP.out).set (.slice A0 s.length c0))
   have hnn : 0 ≤ n := by omega
   subst hk1
   clear hl0 hC0 hn hk0
   go_wp2
   refine bodyPost_ret (aQ_ rfl _ _ (w.heap.size + 2) 47 #[.slice A0 s.length c0] (0, 0) _ rfl (HP2.out).h2 Tryz.underlying47 rfl (by kernel_rfl)) rfl ?_
   exact ⟨(HP2.out).hb, .inr ⟨s, A0, c0, HV.out, rfl, HL.out, .inl HC.out⟩⟩
  ·have HV := mk0 (show headV sy fu pa k n = none by rw [HV0.out, if_neg hk0, if_pos hk1, if_neg hl])
   have HP2 := mk0 ((HP.out).set (.slice none 0 0))
   subst hk1
   clear hk0
   go_wp2
   refine bodyPost_ret (aQ_ rfl _ _ (w.heap.size + 2) 47 #[.slice none 0 0] (0, 0) _ rfl (HP2.out).h2 Tryz.underlying47 rfl (by kernel_rfl)) rfl ?_
   exact HNO.out _ _ HV.out rfl (HP2.out).hb
 by_cases hk2 : k = 2
 ·by_cases hl : n < (sy.length : Int)
  ·obtain ⟨ad, e, hx0, hx1⟩ := at_T71 (H1.out) n (by omega) hl
   subst e
   replace hx1 := ((HB0.out).cell (l1_ w0 _ hx1)).trans hx1
   have HV := mk0 (show headV sy fu pa k n = some (List.replicate (rd_T71 sy n).f1.toNat ⟨[]⟩) by rw [HV0.out, if_neg hk0, if_neg hk1, if_pos hk2, if_pos hl])
   have hr := HRK.out (rd_T71 sy n) (by
    obtain ⟨j, rfl⟩ := Int.eq_ofNat_of_zero_le (show 0 ≤ n by omega)
    rw [rdY_at (by omega)]
    exact l11_ _)
   generalize (rd_T71 sy n).f1 = rk at *
   obtain ⟨m, rfl⟩ := Int.eq_ofNat_of_zero_le hr.1
   rw [l14_] at HV
   have HM := mk0 (show m ≤ 1000 by omega)
   have hmk := mk47 m HM.out
   have HP2 := mk0 ((HP.out).below (aA_ (Below.refl _ _) (.cells (madeCells #[.slice none 0 0] m) 47)))
   have HP3 := mk0 ((HP2.out).set (.slice (some ⟨W1.heap.size, 0, none⟩) m m))
   have HC := mk0 (aU_ W1 (.cells (madeCells #[.slice none 0 0] m) 47))
   have HSZ := mk0 (show w.heap.size + 2 < W1.heap.size from blk_lt (HP.out).h2)
   obtain ⟨_, _, r3, r4⟩ := (HP2.out).cells
   have hnn : 0 ≤ n := by omega
   subst hk2
   clear hr hx0 hn hk0 hk1
   go_wp2
   refine bodyPost_ret (aQ_ rfl _ _ (w.heap.size + 2) 47 #[.slice (some ⟨W1.heap.size, 0, none⟩) m m] (0, 0) _ rfl (HP3.out).h2 Tryz.underlying47 rfl (by kernel_rfl)) rfl ?_
   refine ⟨(HP3.out).hb, .inr ⟨List.replicate m ⟨[]⟩, some ⟨W1.heap.size, 0, none⟩, m, HV.out, by rw [List.length_replicate]; rfl, by simp, .inr ⟨W1.heap.size, 0, m, rfl, by rw [List.length_replicate], by rw [List.length_replicate]; omega, HM.out, by have := HSZ.out; omega, aT_ HC.out (by have := HSZ.out; show W1.heap.size ≠ w.heap.size + 2; omega) _⟩⟩⟩
  ·have HV := mk0 (show headV sy fu pa k n = none by rw [HV0.out, if_neg hk0, if_neg hk1, if_pos hk2, if_neg hl])
   have HP2 := mk0 ((HP.out).set (.slice none 0 0))
   subst hk2
   clear hk0 hk1
   go_wp2
   refine bodyPost_ret (aQ_ rfl _ _ (w.heap.size + 2) 47 #[.slice none 0 0] (0, 0) _ rfl (HP2.out).h2 Tryz.underlying47 rfl (by kernel_rfl)) rfl ?_
   exact HNO.out _ _ HV.out rfl (HP2.out).hb
 ·have HV := mk0 (show headV sy fu pa k n = none by rw [HV0.out, if_neg hk0, if_neg hk1, if_neg hk2])
  have HP2 := mk0 ((HP.out).set (.slice none 0 0))
  go_wp2
  refine bodyPost_ret (aQ_ rfl _ _ (w.heap.size + 2) 47 #[.slice none 0 0] (0, 0) _ rfl (HP2.out).h2 Tryz.underlying47 rfl (by kernel_rfl)) rfl ?_
  exact HNO.out _ _ HV.out rfl (HP2.out).hb
mutual
def ofV (sy : List S71) (fu pa : List S47) : S50 → Option (List S47)
 | ⟨k, n, l⟩ => match headV sy fu pa k n with
  | none => none
  | some s => if s.length < l.length then none else if argsV sy fu pa l s then some (s.drop l.length) else none
def argsV (sy : List S71) (fu pa : List S47) : List S50 → List S47 → Bool
 | [], _ => true
 | a :: r, s => (match ofV sy fu pa a with | none => false | some x => sE ⟨x⟩ (rd_T47 s 0)) && argsV sy fu pa r (s.drop 1)
end
def argOk (sy : List S71) (fu pa : List S47) (a : S50) (b : S47) : Bool := match ofV sy fu pa a with | none => false | some x => sE ⟨x⟩ b
theorem argsV_cons (sy : List S71) (fu pa : List S47) (a : S50) (r : List S50) (s : List S47) : argsV sy fu pa (a :: r) s = (argOk sy fu pa a (rd_T47 s 0) && argsV sy fu pa r (s.drop 1)) := by rw [argsV]; rfl
theorem rd_drop1 (s : List S47) (i : Nat) : rd_T47 (s.drop 1) (i : Int) = rd_T47 s ((i + 1 : Nat) : Int) := by
 unfold rd_T47
 rw [l14_, l14_]
 simp [l18_, List.getElem?_drop, Nat.add_comm]
theorem argsV_false {sy : List S71} {fu pa : List S47} : ∀ {l : List S50} {s : List S47} {i : Nat} (h : i < l.length), argOk sy fu pa l[i] (rd_T47 s (i : Int)) = false → argsV sy fu pa l s = false
 | [], s, i, h, _ => by simp at h
 | a :: r, s, 0, h, h2 => by rw [argsV_cons]; rw [show rd_T47 s 0 = rd_T47 s ((0 : Nat) : Int) from rfl]; simp only [List.getElem_cons_zero] at h2; rw [h2]; rfl
 | a :: r, s, i + 1, h, h2 => by
  have hi : i < r.length := by simpa using h
  rw [argsV_cons, argsV_false (l := r) (s := s.drop 1) (i := i) hi (by rw [rd_drop1]; simpa using h2), Bool.and_false]
theorem argsV_true {sy : List S71} {fu pa : List S47} : ∀ {l : List S50} {s : List S47}, (∀ (i : Nat) (h : i < l.length), argOk sy fu pa l[i] (rd_T47 s (i : Int)) = true) → argsV sy fu pa l s = true
 | [], s, _ => by rw [argsV]
 | a :: r, s, h => by
  rw [argsV_cons, show rd_T47 s 0 = rd_T47 s ((0 : Nat) : Int) from rfl]
  have h0 := h 0 (by simp)
  simp only [List.getElem_cons_zero] at h0
  rw [h0, Bool.true_and]
  refine argsV_true fun i hi => ?_
  rw [rd_drop1]
  have := h (i + 1) (by simpa using hi)
  simpa using this
def PV (sy : List S71) (fu pa : List S47) : Prop := (∀ x ∈ sy, 0 ≤ x.f1 ∧ x.f1 ≤ 8) ∧ (∀ s ∈ fu, sN s ≤ 60) ∧ ∀ s ∈ pa, sN s ≤ 60
theorem sNL_rep (n : Nat) : sNL (List.replicate n ⟨[]⟩) = n := by
 induction n with
 | zero => rfl
 | succ n ih => rw [List.replicate_succ, sNL, ih, sN, sNL]; omega
theorem sNL_drop (l : List S47) (j : Nat) : sNL (l.drop j) ≤ sNL l := by
 induction l generalizing j with
 | nil => simp
 | cons a r ih =>
  cases j with
  | zero => simp
  | succ j => rw [List.drop_succ_cons, sNL]; have := ih j; omega
theorem rdS_mem {l : List S47} {n : Int} (h0 : 0 ≤ n) (h1 : n < (l.length : Int)) : rd_T47 l n ∈ l := by
 obtain ⟨j, rfl⟩ := Int.eq_ofNat_of_zero_le h0
 rw [rdS_at (by omega)]
 exact l11_ _
theorem headV_N {sy : List S71} {fu pa : List S47} (h : PV sy fu pa) {k n : Int} {s : List S47} (hv : headV sy fu pa k n = some s) : sNL s < 60 := by
 have key : ∀ t : S47, sN t ≤ 60 → sNL t.f0 < 60 := fun t ht => by obtain ⟨l⟩ := t; rw [sN] at ht; simp only; omega
 unfold headV at hv
 by_cases h0 : n < 0
 ·rw [if_pos h0] at hv; cases hv
 rw [if_neg h0] at hv
 by_cases h1 : k = 0
 ·rw [if_pos h1] at hv
  by_cases h2 : n < (pa.length : Int)
  ·rw [if_pos h2] at hv; cases hv; exact key _ (h.2.2 _ (rdS_mem (by omega) h2))
  ·rw [if_neg h2] at hv; cases hv
 rw [if_neg h1] at hv
 by_cases h1 : k = 1
 ·rw [if_pos h1] at hv
  by_cases h2 : n < (fu.length : Int)
  ·rw [if_pos h2] at hv; cases hv; exact key _ (h.2.1 _ (rdS_mem (by omega) h2))
  ·rw [if_neg h2] at hv; cases hv
 rw [if_neg h1] at hv
 by_cases h1 : k = 2
 ·rw [if_pos h1] at hv
  by_cases h2 : n < (sy.length : Int)
  ·rw [if_pos h2] at hv; cases hv
   rw [sNL_rep]
   have := h.1 (rd_T71 sy n) (by
    obtain ⟨j, rfl⟩ := Int.eq_ofNat_of_zero_le (show 0 ≤ n by omega)
    rw [rdY_at (by omega)]
    exact l11_ _)
   omega
  ·rw [if_neg h2] at hv; cases hv
 ·rw [if_neg h1] at hv; cases hv
theorem ofV_N {sy : List S71} {fu pa : List S47} (h : PV sy fu pa) {t : S50} {x : List S47} (hv : ofV sy fu pa t = some x) : sN ⟨x⟩ ≤ 60 := by
 obtain ⟨k, n, l⟩ := t
 rw [ofV] at hv
 cases e : headV sy fu pa k n with
 | none => rw [e] at hv; cases hv
 | some s =>
  rw [e] at hv
  simp only at hv
  have h1 := headV_N h e
  split at hv
  ·cases hv
  ·split at hv
   ·cases hv
    rw [sN]
    have := sNL_drop s l.length
    omega
   ·cases hv
theorem sSameV_small {a b : S47} (h : sN a ≤ 60) : sSameV a b = sE a b := by unfold sSameV; rw [l2_ h, Bool.true_and]
structure PB4 (w W : World) (s1 s2 s3 x y z r : Value) (b6 : Nat) (u : Value) : Prop where
 p : PB3 w W s1 s2 s3 x y z r
 h6 : W.heap[b6]? = some (.cells #[u] 47 (0, 0))
 hlt : w.heap.size + 2 < b6
theorem PB4.below {w W W1 : World} {s1 s2 s3 x y z r u : Value} {b6 : Nat} (h : PB4 w W s1 s2 s3 x y z r b6 u) (hb : Below W.heap.size W W1) : PB4 w W1 s1 s2 s3 x y z r b6 u :=
 ⟨h.p.below hb, aK_ h.h6 hb, h.hlt⟩
set_option maxHeartbeats 8000000 in
set_option maxRecDepth 100000 in
theorem psort_calls (sy : List S71) (fu pa : List S47) (hPV : PV sy fu pa) (A1 A2 A3 : Option Addr) (c1 c2 c3 : Nat) (w0 : World) (h1 : Kd.C k71 w0 A1 sy.length sy) (h2 : Kd.C k47 w0 A2 fu.length fu) (h3 : Kd.C k47 w0 A3 pa.length pa) (N : Nat) (hN6 : N ≤ 1000000) :
  ∀ (t : S50), tN t ≤ N → ∀ (A : Option Addr) (c : Nat) (w : World), Kd.C k50 w0 A t.f2.length t.f2 → t.f2.length ≤ c → Below w0.heap.size w0 w →
  Calls Tryz.prog 78 #[.agg #[.slice A1 sy.length c1, .slice A2 fu.length c2, .slice A3 pa.length c3], .agg #[.int .i64 t.f0, .int .i64 t.f1, .slice A t.f2.length c]] w (SrtE w0 (ofV sy fu pa t) w) := by
 induction N with
 | zero => intro t h; have := tN_pos t; omega
 | succ N ih =>
  intro t hN A c w hC hc hB
  replace ih := ih (by omega)
  obtain ⟨k, n, l⟩ := t
  rw [tN] at hN
  have IH := mk0 ih
  have HC := mk0 hC
  have HB0 := mk0 hB
  have HLEN := mk0 (show l.length ≤ 1000000 from by have := tLen_le (l := l); omega)
  have HD := mk0 (show tNL l ≤ N by omega)
  have HPV := mk0 hPV
  have H1 := mk0 h1
  have H2 := mk0 h2
  have H3 := mk0 h3
  have HP := mk0 (PB3.start w (.slice A1 sy.length c1) (.slice A2 fu.length c2) (.slice A3 pa.length c3) (.int .i64 k) (.int .i64 n) (.slice A l.length c) (.slice none 0 0))
  have HO := mk0 (show ofV sy fu pa ⟨k, n, l⟩ = match headV sy fu pa k n with | none => none | some s => if s.length < l.length then none else if argsV sy fu pa l s then some (s.drop l.length) else none from by rw [ofV])
  show Calls Tryz.prog 78 #[.agg #[.slice A1 sy.length c1, .slice A2 fu.length c2, .slice A3 pa.length c3], .agg #[.int .i64 k, .int .i64 n, .slice A l.length c]] w (SrtE w0 (ofV sy fu pa ⟨k, n, l⟩) w)
  clear hC hc hB hN ih hPV h1 h2 h3 hN6
  generalize ofV sy fu pa ⟨k, n, l⟩ = V at *
  go_enter Tryz.func78, Tryz.ntmps78
  go_upto_region 1 with (fail)
  generalize ((w.alloc (.cells #[.slice A1 sy.length c1, .slice A2 fu.length c2, .slice A3 pa.length c3] 45)).alloc (.cells #[.int .i64 k, .int .i64 n, .slice A l.length c] 50)).alloc (.cells #[.slice none 0 0] 47) = W1 at *
  obtain ⟨⟨p0, p1, p2⟩, ⟨q0, q1, q2⟩, r0, r1⟩ := (HP.out).cells
  go_wp2_with fail
  have HBB := mk0 (aM_ HB0.out (HB0.out).size (HP.out).hb)
  have HW1 := mk0 (blk_lt (HP.out).h2)
  refine (head_calls sy fu pa ⟨k, n, l⟩ A1 A2 A3 A c1 c2 c3 c w0 W1 H1.out H2.out H3.out HBB.out (HPV.out).1).mono ?_
  rintro E w2 ⟨hb, ⟨hv, rfl⟩ | ⟨s, As, cs, hv, rfl, hl, hCs⟩⟩
  ·rw [hv] at HO
   have HP2 := mk0 ((HP.out).below hb)
   clear hb hv p0 p1 p2 q0 q1 q2 r0 r1 HBB
   go_upto_region 2 with (fail)
   have HP3 := mk0 ((HP2.out).below (aA_ (Below.refl _ _) (.cells #[.slice none 0 0] 47)))
   generalize w2.alloc (.cells #[.slice none 0 0] 47) = w3 at *
   obtain ⟨_, _, r0, r1⟩ := (HP3.out).cells
   have HP4 := mk0 ((HP3.out).set (.slice none 0 0))
   go_wp2
   refine bodyPost_ret (aQ_ rfl _ _ (w.heap.size + 2) 47 #[.slice none 0 0] (0, 0) _ rfl (HP4.out).h2 Tryz.underlying47 rfl (by kernel_rfl)) rfl ?_
   exact ⟨(HP4.out).hb, .inl ⟨HO.out, rfl⟩⟩
  ·rw [hv] at HO
   have HP2 := mk0 ((HP.out).below hb)
   have HCs := mk0 hCs
   have HLs := mk0 hl
   have HSN := mk0 (show s.length ≤ 60 from by have := headV_N HPV.out hv; have := sLen_le (l := s); omega)
   clear hb hv p0 p1 p2 q0 q1 q2 r0 r1 HBB hCs hl
   go_upto_region 2 with (fail)
   have HP3 := mk0 (PB4.mk ((HP2.out).below (aA_ (Below.refl _ _) (.cells #[.slice As s.length cs] 47))) (aU_ w2 (.cells #[.slice As s.length cs] 47)) (blk_lt (HP2.out).h2))
   have HCs3 := mk0 (HCs.out.below (aA_ (Below.refl w2.heap.size w2) (.cells #[.slice As s.length cs] 47)))
   clear HP2 HCs
   generalize w2.alloc (.cells #[.slice As s.length cs] 47) = w3 at *
   generalize w2.heap.size = b6 at *
   obtain ⟨⟨p0, p1, p2⟩, ⟨q0, q1, q2⟩, r0, r1⟩ := (HP3.out).p.cells
   have u0 : w3.cell? ⟨b6, 0, none⟩ = some (.slice As s.length cs) := (aC_ (HP3.out).h6 0).trans rfl
   by_cases hlen : s.length < l.length
   ·rw [if_pos hlen] at HO
    have hlz : (l.length : Int) > (s.length : Int) := by omega
    have HP4 := mk0 ((HP3.out).p.set (.slice none 0 0))
    clear hlen
    go_wp2
    refine bodyPost_ret (aQ_ rfl _ _ (w.heap.size + 2) 47 #[.slice none 0 0] (0, 0) _ rfl (HP4.out).h2 Tryz.underlying47 rfl (by kernel_rfl)) rfl ?_
    exact ⟨(HP4.out).hb, .inl ⟨HO.out, rfl⟩⟩
   rw [if_neg hlen] at HO
   have hlz : ¬ ((l.length : Int) > (s.length : Int)) := by omega
   have HLL := mk0 (show l.length ≤ s.length by omega)
   clear hlen
   go_wp2
   clear hlz p0 p1 p2 q0 q1 q2 r0 r1 u0
   go_loopg [33] l.length (fun gg v33 wi => ∃ (j : Nat), j ≤ l.length ∧ l.length - j ≤ gg ∧ v33 = .int .i64 j ∧ Aside0 (PB4 w wi (.slice A1 sy.length c1) (.slice A2 fu.length c2) (.slice A3 pa.length c3) (.int .i64 k) (.int .i64 n) (.slice A l.length c) (.slice none 0 0) b6 (.slice As s.length cs)) ∧ Aside0 (SX w0 W1 wi As s) ∧ Aside0 (∀ (i : Nat) (h : i < l.length), i < j → argOk sy fu pa l[i] (rd_T47 s (i : Int)) = true))
   case atStart => exact ⟨0, by omega, by omega, rfl, HP3, HCs3, ⟨fun i _ h => absurd h (Nat.not_lt_zero _)⟩⟩
   case round =>
    clear HP3 HCs3
    obtain ⟨j, hj, hgg, rfl, HP3, HCs3, HOK⟩ := hrel
    by_cases hlt : j < l.length
    ·have hltz : (j : Int) < (l.length : Int) := by omega
     have HBr := mk0 (aM_ HB0.out (HB0.out).size (HP3.out).p.hb)
     obtain ⟨ad, Aa, ca, e, hx0, hx1, hx2, hla, hCa⟩ := at_T50 HC.out (j : Int) (by omega) hltz
     subst e
     rw [rdT_at hlt] at hx0 hx1 hx2 hla hCa
     rw [l14_] at hx0 hx1 hx2
     replace hx0 := ((HBr.out).cell (l1_ w0 _ hx0)).trans hx0
     replace hx1 := ((HBr.out).cell (l1_ w0 _ hx1)).trans hx1
     replace hx2 := ((HBr.out).cell (l1_ w0 _ hx2)).trans hx2
     have HJ := mk0 (show tN l[j] ≤ N from by have := tN_mem (l11_ hlt); have := HD.out; omega)
     have HBAD := mk0 (fun h => argsV_false (sy := sy) (fu := fu) (pa := pa) (l := l) (s := s) hlt h)
     have HGOOD := mk0 (show argOk sy fu pa l[j] (rd_T47 s (j : Int)) = true → ∀ (i : Nat) (h : i < l.length), i < j + 1 → argOk sy fu pa l[i] (rd_T47 s (i : Int)) = true from fun h i hi hij => by
      by_cases e : i = j
      ·subst e; exact h
      ·exact HOK.out i hi (by omega))
     generalize l[j] = a at *
     have HCa := mk0 hCa
     have HLa := mk0 hla
     clear hCa hla
     go_upto_region 7 with (fail)
     have HX5 := mk0 (aU_ wr (.cells #[.int .i64 a.f0, .int .i64 a.f1, .slice Aa a.f2.length ca] 50))
     have HP5 := mk0 ((HP3.out).below (aA_ (Below.refl _ _) (.cells #[.int .i64 a.f0, .int .i64 a.f1, .slice Aa a.f2.length ca] 50)))
     have HCs5 := mk0 (HCs3.out.below (aA_ (Below.refl wr.heap.size wr) (.cells #[.int .i64 a.f0, .int .i64 a.f1, .slice Aa a.f2.length ca] 50)))
     clear HBr hx0 hx1 hx2 HP3 HCs3
     generalize (wr.alloc (.cells #[.int .i64 a.f0, .int .i64 a.f1, .slice Aa a.f2.length ca] 50)) = w5 at *
     generalize wr.heap.size = b9 at *
     have HBr5 := mk0 (aM_ HB0.out (HB0.out).size (HP5.out).p.hb)
     obtain ⟨⟨p0, p1, p2⟩, ⟨q0, q1, q2⟩, r0, r1⟩ := (HP5.out).p.cells
     have m0 : w5.cell? ⟨b9, 0, none⟩ = some (.int .i64 a.f0) := (aC_ HX5.out 0).trans rfl
     have m1 : w5.cell? ⟨b9, 1, none⟩ = some (.int .i64 a.f1) := (aC_ HX5.out 1).trans rfl
     have m2 : w5.cell? ⟨b9, 2, none⟩ = some (.slice Aa a.f2.length ca) := (aC_ HX5.out 2).trans rfl
     go_wp2_with fail
     refine (IH.out a HJ.out Aa ca w5 HCa.out HLa.out HBr5.out).mono ?_
     rintro E w6 ⟨hb, ⟨hv, rfl⟩ | ⟨x, Ax, cx, hv, rfl, hlx, hCx⟩⟩
     ·have HF := mk0 (HBAD.out (by unfold argOk; rw [hv]))
      have HP6 := mk0 ((HP5.out).below hb)
      clear hb hv p0 p1 p2 q0 q1 q2 r0 r1 m0 m1 m2 HBr5 HP5
      go_upto_region 8 with (fail)
      have HP7 := mk0 ((HP6.out).below (aA_ (Below.refl _ _) (.cells #[.slice none 0 0] 47)))
      generalize w6.alloc (.cells #[.slice none 0 0] 47) = w7 at *
      obtain ⟨_, _, r0, r1⟩ := (HP7.out).p.cells
      have HP8 := mk0 ((HP7.out).p.set (.slice none 0 0))
      have HP9 := mk0 (fun n => (HP8.out).below (aB_ (Below.refl _ _) n))
      go_quiet (fail)
      go_wp2
      refine bodyPost_ret (aQ_ rfl _ _ (w.heap.size + 2) 47 #[.slice none 0 0] (0, 0) _ rfl (HP9.out _).h2 Tryz.underlying47 rfl (by kernel_rfl)) rfl ?_
      exact ⟨(HP9.out _).hb, .inl ⟨by rw [HO.out, HF.out]; rfl, rfl⟩⟩
     ·have HP6 := mk0 ((HP5.out).below hb)
      have HCs6 := mk0 (HCs5.out.below hb)
      have HCx := mk0 hCx
      have HLx := mk0 hlx
      have HXN := mk0 (ofV_N HPV.out hv)
      have HAO := mk0 (show argOk sy fu pa a (rd_T47 s (j : Int)) = sSameV ⟨x⟩ (rd_T47 s (j : Int)) from by rw [sSameV_small HXN.out]; unfold argOk; rw [hv])
      clear hb hv p0 p1 p2 q0 q1 q2 r0 r1 m0 m1 m2 HBr5 HP5 HCs5 hCx hlx
      go_upto_region 8 with (fail)
      have HX7 := mk0 (aU_ w6 (.cells #[.slice Ax x.length cx] 47))
      have HP7 := mk0 ((HP6.out).below (aA_ (Below.refl _ _) (.cells #[.slice Ax x.length cx] 47)))
      have HCs7 := mk0 (HCs6.out.below (aA_ (Below.refl w6.heap.size w6) (.cells #[.slice Ax x.length cx] 47)))
      have HCx7 := mk0 ((HCx.out.below (aA_ (Below.refl w6.heap.size w6) (.cells #[.slice Ax x.length cx] 47))).C (aM_ HB0.out (HB0.out).size (HP7.out).p.hb))
      clear HP6 HCs6 HCx
      generalize w6.alloc (.cells #[.slice Ax x.length cx] 47) = w7 at *
      generalize w6.heap.size = b10 at *
      have hjs : (j : Int) < (s.length : Int) := by have := HLL.out; omega
      obtain ⟨ads, A0, c0, e, hy0, hly, hCy⟩ := at_T47 (HCs7.out.C (aM_ HB0.out (HB0.out).size (HP7.out).p.hb)) (j : Int) (by omega) hjs
      subst e
      rw [l14_] at hy0
      have HS := mk0 (fun W (hW : Below w7.heap.size w7 W) => sSame_calls ⟨x⟩ (rd_T47 s (j : Int)) Ax cx A0 c0 W (Kd.C_below HCx7.out hW) HLx.out (Kd.C_below hCy hW) hly)
      generalize rd_T47 s (j : Int) = y at *
      have m0 : w7.cell? ⟨b10, 0, none⟩ = some (.slice Ax x.length cx) := (aC_ HX7.out 0).trans rfl
      have u0 : w7.cell? ⟨b6, 0, none⟩ = some (.slice (some ads) s.length cs) := (aC_ (HP7.out).h6 0).trans rfl
      have HK := mk0 (fun (W : World) (hW : Below w7.heap.size w7 W) => And.intro (aP_ hW m0) (And.intro (aP_ hW u0) (aP_ hW hy0)))
      have hd := below_drew (Below.refl w7.heap.size w7)
      clear hCy hly m0 u0 hy0
      go_region_held3 (fun w' => w'.cell? ⟨b10, 0, none⟩ = some (.slice Ax x.length cx) ∧ w'.cell? ⟨b6, 0, none⟩ = some (.slice (some ads) s.length cs) ∧ w'.cell? (ads.add j) = some (.slice A0 y.f0.length c0))
       (first | exact HK.out _ hd | exact HK.out _ hb8 | fail)
       (first | ((with_reducible refine (HS.out _ hd).mono ?_); rintro E w8 ⟨rfl, hb⟩; have hb8 := aM_ hd hd.size hb; clear hb) | fail)
      have hb := hb8
      clear hd hb8
      have HP8 := mk0 ((HP7.out).below hb)
      have HCs8 := mk0 (HCs7.out.below hb)
      clear hb HP7 HCs7 HK HS
      cases q : sSameV ⟨x⟩ y with
      | false =>
       have HF := mk0 (HBAD.out (by rw [HAO.out, q]))
       clear q
       obtain ⟨_, _, r0, r1⟩ := (HP8.out).p.cells
       have HP9 := mk0 ((HP8.out).p.set (.slice none 0 0))
       go_wp2
       refine bodyPost_ret (aQ_ rfl _ _ (w.heap.size + 2) 47 #[.slice none 0 0] (0, 0) _ rfl (HP9.out).h2 Tryz.underlying47 rfl (by kernel_rfl)) rfl ?_
       exact ⟨(HP9.out).hb, .inl ⟨by rw [HO.out, HF.out]; rfl, rfl⟩⟩
      | true =>
       have HG := mk0 (HGOOD.out (by rw [HAO.out, q]))
       clear q
       go_wp2
       go_roundg (l.length - (j + 1))
       case measure => omega
       case rel => exact ⟨j + 1, by omega, by omega, by rw [wrap_succ (by omega) (by have := HLEN.out; omega)]; rfl, HP8, HCs8, HG⟩
    ·have hltz : ¬ (j : Int) < (l.length : Int) := by omega
     have hje : j = l.length := by omega
     subst hje
     have HT := mk0 (argsV_true (sy := sy) (fu := fu) (pa := pa) (l := l) (s := s) (fun i hi => HOK.out i hi hi))
     obtain ⟨⟨p0, p1, p2⟩, ⟨q0, q1, q2⟩, r0, r1⟩ := (HP3.out).p.cells
     have u0 : wr.cell? ⟨b6, 0, none⟩ = some (.slice As s.length cs) := (aC_ (HP3.out).h6 0).trans rfl
     have hls : l.length ≤ s.length := HLL.out
     have hsc : s.length ≤ cs := HLs.out
     have HD1 := mk0 ((HCs3.out).drop hls hsc)
     have HP4 := mk0 (fun u => (HP3.out).p.set u)
     have HV := mk0 (show V = some (s.drop l.length) by rw [HO.out, HT.out]; rfl)
     have HSL := mk0 (show (s.drop l.length).length = s.length - l.length from l9_)
     go_wp2
     ·subst h
      refine bodyPost_ret (aQ_ rfl _ _ (w.heap.size + 2) 47 #[.slice As (s.length - l.length) 0] (0, 0) _ rfl (HP4.out _).h2 Tryz.underlying47 rfl (by kernel_rfl)) rfl ?_
      refine ⟨(HP4.out _).hb, .inr ⟨s.drop l.length, As, 0, HV.out, by rw [HSL.out]; rfl, by have := HLs.out; rw [HSL.out]; omega, ?_⟩⟩
      have h1 := HD1.out
      rw [if_pos rfl] at h1
      exact ((h1.far (p := ⟨w.heap.size + 2, 0, none⟩) HW1.out _).lower (by have := HW1.out; omega))
     ·refine bodyPost_ret (aQ_ rfl _ _ (w.heap.size + 2) 47 #[.slice (As.map (·.add l.length)) (s.length - l.length) (cs - l.length)] (0, 0) _ rfl (HP4.out _).h2 Tryz.underlying47 rfl (by kernel_rfl)) rfl ?_
      refine ⟨(HP4.out _).hb, .inr ⟨s.drop l.length, As.map (·.add l.length), cs - l.length, HV.out, by rw [HSL.out]; rfl, by have := HLs.out; rw [HSL.out]; omega, ?_⟩⟩
      have h1 := HD1.out
      rw [if_neg h] at h1
      exact ((h1.far (p := ⟨w.heap.size + 2, 0, none⟩) HW1.out _).lower (by have := HW1.out; omega))
theorem pof_calls (sy : List S71) (fu pa : List S47) (hPV : PV sy fu pa) (A1 A2 A3 : Option Addr) (c1 c2 c3 : Nat) (w0 : World) (h1 : Kd.C k71 w0 A1 sy.length sy) (h2 : Kd.C k47 w0 A2 fu.length fu) (h3 : Kd.C k47 w0 A3 pa.length pa)
  (t : S50) (ht : tN t ≤ 1000000) (A : Option Addr) (c : Nat) (w : World) (hC : Kd.C k50 w0 A t.f2.length t.f2) (hc : t.f2.length ≤ c) (hB : Below w0.heap.size w0 w) :
  Calls Tryz.prog 43 #[.agg #[.slice A1 sy.length c1, .slice A2 fu.length c2, .slice A3 pa.length c3], .agg #[.int .i64 t.f0, .int .i64 t.f1, .slice A t.f2.length c]] w (SrtE w0 (ofV sy fu pa t) w) := by
 have HP := mk0 (PB3.start w (.slice A1 sy.length c1) (.slice A2 fu.length c2) (.slice A3 pa.length c3) (.int .i64 t.f0) (.int .i64 t.f1) (.slice A t.f2.length c) (.slice none 0 0))
 have HS := mk0 (fun W (hW : Below w0.heap.size w0 W) => psort_calls sy fu pa hPV A1 A2 A3 c1 c2 c3 w0 h1 h2 h3 1000000 (by omega) t ht A c W hC hc hW)
 have HB := mk0 (aM_ hB hB.size (HP.out).hb)
 clear hPV h1 h2 h3 ht hC hc hB
 go_enter Tryz.func43, Tryz.ntmps43
 go_upto_region 1 with (fail)
 generalize ((w.alloc (.cells #[.slice A1 sy.length c1, .slice A2 fu.length c2, .slice A3 pa.length c3] 45)).alloc (.cells #[.int .i64 t.f0, .int .i64 t.f1, .slice A t.f2.length c] 50)).alloc (.cells #[.slice none 0 0] 47) = W1 at *
 obtain ⟨⟨p0, p1, p2⟩, ⟨q0, q1, q2⟩, r0, r1⟩ := (HP.out).cells
 have HW1 := mk0 (blk_lt (HP.out).h2)
 go_wp2_with fail
 refine (HS.out W1 HB.out).mono ?_
 rintro E w2 ⟨hb, ⟨hv, rfl⟩ | ⟨s, As, cs, hv, rfl, hl, hCs⟩⟩
 ·have HP2 := mk0 ((HP.out).below hb)
  have HV := mk0 hv
  clear hb hv p0 p1 p2 q0 q1 q2 r0 r1
  obtain ⟨_, _, r0, r1⟩ := (HP2.out).cells
  have HP4 := mk0 ((HP2.out).set (.slice none 0 0))
  go_wp2
  refine bodyPost_ret (aQ_ rfl _ _ (w.heap.size + 2) 47 #[.slice none 0 0] (0, 0) _ rfl (HP4.out).h2 Tryz.underlying47 rfl (by kernel_rfl)) rfl ?_
  exact ⟨(HP4.out).hb, .inl ⟨HV.out, rfl⟩⟩
 ·have HP2 := mk0 ((HP.out).below hb)
  have HV := mk0 hv
  have HL := mk0 hl
  have HCs := mk0 hCs
  clear hb hv hl hCs p0 p1 p2 q0 q1 q2 r0 r1
  obtain ⟨_, _, r0, r1⟩ := (HP2.out).cells
  have HP4 := mk0 ((HP2.out).set (.slice As s.length cs))
  go_wp2
  refine bodyPost_ret (aQ_ rfl _ _ (w.heap.size + 2) 47 #[.slice As s.length cs] (0, 0) _ rfl (HP4.out).h2 Tryz.underlying47 rfl (by kernel_rfl)) rfl ?_
  exact ⟨(HP4.out).hb, .inr ⟨s, As, cs, HV.out, rfl, HL.out, ((HCs.out.far (p := ⟨w.heap.size + 2, 0, none⟩) HW1.out _).lower (by have := HW1.out; omega))⟩⟩
abbrev Hd := Option Addr × Nat × Nat
def encH (p : Hd) : Value := .slice p.1 p.2.1 p.2.2
def kH : Kd Hd := Kd.scalar encH (fun _ => rfl)
def zH : Hd := (none, 0, 0)
def RelS (w : World) (hs : List Hd) (xs : List S47) : Prop := hs.length = xs.length ∧ ∀ (j : Nat) (h : j < xs.length), (hs.getD j zH).2.1 = xs[j].f0.length ∧ xs[j].f0.length ≤ (hs.getD j zH).2.2 ∧ Kd.C k47 w (hs.getD j zH).1 xs[j].f0.length xs[j].f0
theorem RelS.nil (w : World) : RelS w [] [] := ⟨rfl, fun j h => absurd h (Nat.not_lt_zero _)⟩
theorem getD_app {α : Type} (l : List α) (x d : α) (q : Nat) : (l ++ [x]).getD q d = if q = l.length then x else l.getD q d := by
 by_cases h : q = l.length
 ·subst h; simp
 ·rw [if_neg h]
  by_cases h2 : q < l.length
  ·simp [l18_, List.getElem?_append_left h2]
  ·have h3 : l.length + 1 ≤ q := by omega
   simp [l18_, List.getElem?_eq_none (show (l ++ [x]).length ≤ q by simp; omega), List.getElem?_eq_none (show l.length ≤ q by omega)]
theorem RelS.snoc {w : World} {hs : List Hd} {xs : List S47} (hr : RelS w hs xs) {A : Option Addr} {c : Nat} {x : S47} (hc : x.f0.length ≤ c) (hC : Kd.C k47 w A x.f0.length x.f0) : RelS w (hs ++ [(A, x.f0.length, c)]) (xs ++ [x]) := by
 refine ⟨by rw [l7_, l7_, hr.1]; rfl, fun j hj => ?_⟩
 rw [getD_app, hr.1]
 by_cases e : j = xs.length
 ·subst e
  rw [if_pos rfl]
  simp only [List.getElem_append_right (Nat.le_refl _), Nat.sub_self, List.getElem_cons_zero]
  exact ⟨trivial, hc, hC⟩
 ·rw [if_neg e]
  have h2 : j < xs.length := by rw [l7_, l10_] at hj; omega
  simp only [List.getElem_append_left h2]
  exact hr.2 j h2
theorem C_of_heads {w W : World} {v : Value} {hs : List Hd} {xs : List S47} {base : Nat} {ok : Nat → Prop} (hR : kH.R 47 W base ok v hs) (hrel : RelS w hs xs) (hb : Below w.heap.size w W) : ∃ A c, v = .slice A xs.length c ∧ xs.length ≤ c ∧ Kd.C k47 W A xs.length xs := by
 obtain ⟨A, c, rfl, hl, hC⟩ := Kd.R_reads hR
 rw [hrel.1] at hl hC ⊢
 refine ⟨A, c, rfl, hl, rfl, hC.2.1, fun h0 => ?_⟩
 obtain ⟨ad, e, hc⟩ := hC.2.2 h0
 refine ⟨ad, e, fun j p hj => ?_⟩
 obtain ⟨hlt, hp⟩ := List.getElem?_eq_some_iff.1 hj
 have hlt2 : j < hs.length := by rw [hrel.1]; exact hlt
 have hh : hs[j]? = some (hs.getD j zH) := by rw [l18_, l17_ hlt2]; rfl
 obtain ⟨cs, h1, h2, h3⟩ := hc j _ hh
 obtain ⟨q1, q2, q3⟩ := hrel.2 j hlt
 rw [hp] at q1 q2 q3
 refine ⟨cs, h1, ?_, h3⟩
 have h2' : cs = [encH (hs.getD j zH)] := h2
 rw [h2']
 unfold encH
 rw [q1]
 exact Q.k47_mk W p q2 (Kd.C_below q3 hb)
structure PLB (w W : World) (s1 s2 x y z u v : Value) : Prop where
 hb : Below w.heap.size w W
 h0 : W.heap[w.heap.size]? = some (.cells #[s1, s2] 25 (0, 0))
 h1 : W.heap[w.heap.size + 1]? = some (.cells #[x, y, z] 45 (0, 0))
 h2 : W.heap[w.heap.size + 2]? = some (.cells #[s1, u, v] 45 (0, 0))
theorem PLB.start (w : World) (s1 s2 x y z u v : Value) : PLB w (((w.alloc (.cells #[s1, s2] 25)).alloc (.cells #[x, y, z] 45)).alloc (.cells #[s1, u, v] 45)) s1 s2 x y z u v :=
 ⟨aA_ (aA_ (aA_ (Below.refl _ _) _) _) _, aD_ (aD_ (aU_ w _) _) _, aD_ (blk_at2 w _ _) _, blk_at3 w _ _ _⟩
theorem PLB.below {w W W1 : World} {s1 s2 x y z u v : Value} (h : PLB w W s1 s2 x y z u v) (hb : Below W.heap.size W W1) : PLB w W1 s1 s2 x y z u v :=
 ⟨aM_ h.hb h.hb.size hb, aK_ h.h0 hb, aK_ h.h1 hb, aK_ h.h2 hb⟩
theorem PLB.grown {w W W1 : World} {s1 s2 x y z u v : Value} (h : PLB w W s1 s2 x y z u v) {row : Option Nat} (hb : Below w.heap.size w W1) (hg : W.grownBy W1 row) (hne : ∀ k, row = some k → w.heap.size + 3 ≤ k) : PLB w W1 s1 s2 x y z u v :=
 ⟨hb, blk_grown h.h0 hg (fun e => by have := hne _ e.symm; omega), blk_grown h.h1 hg (fun e => by have := hne _ e.symm; omega), blk_grown h.h2 hg (fun e => by have := hne _ e.symm; omega)⟩
theorem PLB.setu {w W : World} {s1 s2 x y z u v : Value} (h : PLB w W s1 s2 x y z u v) (n : Value) : PLB w (W.setCell ⟨w.heap.size + 2, 1, none⟩ n) s1 s2 x y z n v :=
 ⟨h.hb.setCell (p := ⟨w.heap.size + 2, 1, none⟩) (by show w.heap.size ≤ w.heap.size + 2; omega) _, aT_ h.h0 (by show w.heap.size ≠ w.heap.size + 2; omega) _, aT_ h.h1 (by show w.heap.size + 1 ≠ w.heap.size + 2; omega) _, blk_set h.h2 1 n⟩
theorem PLB.out {w W : World} {s1 s2 x y z u v : Value} (h : PLB w W s1 s2 x y z u v) (a b c : Value) : (((W.setCell ⟨w.heap.size + 1, 0, none⟩ a).setCell ⟨w.heap.size + 1, 1, none⟩ b).setCell ⟨w.heap.size + 1, 2, none⟩ c).heap[w.heap.size + 1]? = some (.cells #[a, b, c] 45 (0, 0)) ∧ Below w.heap.size w (((W.setCell ⟨w.heap.size + 1, 0, none⟩ a).setCell ⟨w.heap.size + 1, 1, none⟩ b).setCell ⟨w.heap.size + 1, 2, none⟩ c) :=
 ⟨blk_set (blk_set (blk_set h.h1 0 a) 1 b) 2 c, ((h.hb.setCell (p := ⟨w.heap.size + 1, 0, none⟩) (Nat.le_succ _) _).setCell (p := ⟨w.heap.size + 1, 1, none⟩) (Nat.le_succ _) _).setCell (p := ⟨w.heap.size + 1, 2, none⟩) (Nat.le_succ _) _⟩
theorem PLB.cells {w W : World} {s1 s2 x y z u v : Value} (h : PLB w W s1 s2 x y z u v) : (W.cell? ⟨w.heap.size, 0, none⟩ = some s1 ∧ W.cell? ⟨w.heap.size, 1, none⟩ = some s2) ∧ (W.cell? ⟨w.heap.size + 2, 0, none⟩ = some s1 ∧ W.cell? ⟨w.heap.size + 2, 1, none⟩ = some u ∧ W.cell? ⟨w.heap.size + 2, 2, none⟩ = some v) ∧ W.frozen? ⟨w.heap.size + 2, 1, none⟩ = false :=
 ⟨⟨(aC_ h.h0 0).trans rfl, (aC_ h.h0 1).trans rfl⟩, ⟨(aC_ h.h2 0).trans rfl, (aC_ h.h2 1).trans rfl, (aC_ h.h2 2).trans rfl⟩, aJ_ h.h2 1⟩
theorem PLB.outs {w W : World} {s1 s2 x y z u v : Value} (h : PLB w W s1 s2 x y z u v) : (W.cell? ⟨w.heap.size + 1, 0, none⟩ = some x ∧ W.cell? ⟨w.heap.size + 1, 1, none⟩ = some y ∧ W.cell? ⟨w.heap.size + 1, 2, none⟩ = some z) ∧ W.frozen? ⟨w.heap.size + 1, 0, none⟩ = false ∧ W.frozen? ⟨w.heap.size + 1, 1, none⟩ = false ∧ W.frozen? ⟨w.heap.size + 1, 2, none⟩ = false :=
 ⟨⟨(aC_ h.h1 0).trans rfl, (aC_ h.h1 1).trans rfl, (aC_ h.h1 2).trans rfl⟩, aJ_ h.h1 0, aJ_ h.h1 1, aJ_ h.h1 2⟩
theorem rdF_at {l : List S52} {j : Nat} (h : j < l.length) : rd_T52 l (j : Int) = l[j] := by simp [rd_T52, l18_, l17_ h]
def PlaceE (sl sp : Value) (fs : List S52) (w : World) (E : Ending) (w' : World) : Prop :=
 Below w.heap.size w w' ∧ ∃ (A : Option Addr) (c : Nat), E = .returned (.agg #[sl, .slice A fs.length c, sp]) ∧ fs.length ≤ c ∧ Kd.C k47 w' A (fs.map (·.f1)).length (fs.map (·.f1))
set_option maxHeartbeats 8000000 in
set_option maxRecDepth 100000 in
theorem place_calls (sy : List S71) (fs : List S52) (A1 A2 A3 : Option Addr) (n3 c1 c2 c3 : Nat) (w : World) (hF : Kd.C k52 w A2 fs.length fs) (hn : fs.length ≤ 100000) :
  Calls Tryz.prog 42 #[.agg #[.slice A1 sy.length c1, .slice A2 fs.length c2], .slice A3 n3 c3] w (PlaceE (.slice A1 sy.length c1) (.slice A3 n3 c3) fs w) := by
 have HF := mk0 hF
 have HN := mk0 hn
 have HP := mk0 (PLB.start w (.slice A1 sy.length c1) (.slice A2 fs.length c2) (.slice none 0 0) (.slice none 0 0) (.slice none 0 0) (.slice none 0 0) (.slice A3 n3 c3))
 clear hF hn
 go_enter Tryz.func42, Tryz.ntmps42
 go_upto_region 2 with (fail)
 generalize ((w.alloc (.cells #[.slice A1 sy.length c1, .slice A2 fs.length c2] 25)).alloc (.cells #[.slice none 0 0, .slice none 0 0, .slice none 0 0] 45)).alloc (.cells #[.slice A1 sy.length c1, .slice none 0 0, .slice A3 n3 c3] 45) = W1 at *
 obtain ⟨⟨p0, p1⟩, ⟨q0, q1, q2⟩, f1⟩ := (HP.out).cells
 go_wp2
 clear p0 p1 q0 q1 q2 f1
 go_loopg [15] fs.length (fun gg v15 wi => ∃ (j : Nat) (A : Option Addr) (c : Nat) (hs : List Hd), j ≤ fs.length ∧ fs.length - j ≤ gg ∧ v15 = .int .i64 j ∧ Aside0 (PLB w wi (.slice A1 sy.length c1) (.slice A2 fs.length c2) (.slice none 0 0) (.slice none 0 0) (.slice none 0 0) (.slice A hs.length c) (.slice A3 n3 c3)) ∧ Aside0 (Kd.R kH 47 wi w.heap.size (fun k => w.heap.size + 3 ≤ k) (.slice A hs.length c) hs) ∧ Aside0 (RelS w hs ((fs.take j).map (·.f1))))
 case atStart => exact ⟨0, none, 0, [], by omega, by omega, rfl, HP, ⟨Kd.R_nil _ _ _ _ _⟩, ⟨RelS.nil w⟩⟩
 case round =>
  clear HP
  obtain ⟨j, A, c, hs, hj, hgg, rfl, HP, HR, HRS⟩ := hrel
  have HHL := mk0 (show hs.length = j by rw [(HRS.out).1, List.length_map, List.length_take]; omega)
  by_cases hlt : j < fs.length
  ·have hltz : (j : Int) < (fs.length : Int) := by omega
   obtain ⟨ad, As, cs, At, ct, e, hx0, hx1, hx2, hx3, hx4, hls, hCs, hlt4, hCt⟩ := at_T52 HF.out (j : Int) (by omega) hltz
   subst e
   rw [rdF_at hlt] at hx0 hx1 hx2 hx3 hx4 hls hCs hlt4 hCt
   rw [l14_] at hx0 hx1 hx2 hx3 hx4
   replace hx0 := ((HP.out).hb.cell (l1_ w _ hx0)).trans hx0
   replace hx1 := ((HP.out).hb.cell (l1_ w _ hx1)).trans hx1
   replace hx2 := ((HP.out).hb.cell (l1_ w _ hx2)).trans hx2
   replace hx3 := ((HP.out).hb.cell (l1_ w _ hx3)).trans hx3
   replace hx4 := ((HP.out).hb.cell (l1_ w _ hx4)).trans hx4
   have HRS2 := mk0 (show RelS w (hs ++ [(As, fs[j].f1.f0.length, cs)]) ((fs.take (j + 1)).map (·.f1)) from by
    rw [takeS hlt, List.map_append]
    exact RelS.snoc HRS.out hls hCs)
   clear hls hCs hlt4 hCt
   generalize fs[j] = f at *
   go_upto_region 5 with (fail)
   have HX5 := mk0 (aU_ wr (.cells #[.string f.f0, .slice As f.f1.f0.length cs, .int .i64 f.f2.f0, .int .i64 f.f2.f1, .slice At f.f2.f2.length ct] 52))
   have HP5 := mk0 ((HP.out).below (aA_ (Below.refl _ _) (.cells #[.string f.f0, .slice As f.f1.f0.length cs, .int .i64 f.f2.f0, .int .i64 f.f2.f1, .slice At f.f2.f2.length ct] 52)))
   have HR5 := mk0 (Kd.R_below HR.out (aA_ (Below.refl wr.heap.size wr) (.cells #[.string f.f0, .slice As f.f1.f0.length cs, .int .i64 f.f2.f0, .int .i64 f.f2.f1, .slice At f.f2.f2.length ct] 52)))
   have HSZ := mk0 (show w.heap.size + 3 ≤ wr.heap.size from by have := blk_lt (HP.out).h2; omega)
   clear hx0 hx1 hx2 hx3 hx4 HP HR
   generalize (wr.alloc (.cells #[.string f.f0, .slice As f.f1.f0.length cs, .int .i64 f.f2.f0, .int .i64 f.f2.f1, .slice At f.f2.f2.length ct] 52)) = w5 at *
   have HSZ5 := mk0 (show w.heap.size + 3 ≤ w5.heap.size from by have := blk_lt (HP5.out).h2; have := blk_lt HX5.out; have := HSZ.out; omega)
   generalize wr.heap.size = b7 at *
   obtain ⟨⟨p0, p1⟩, ⟨q0, q1, q2⟩, f1⟩ := (HP5.out).cells
   have m1 : w5.cell? ⟨b7, 1, none⟩ = some (.slice As f.f1.f0.length cs) := (aC_ HX5.out 1).trans rfl
   generalize f.f1.f0.length = n at *
   go_wp2_with ((with_reducible refine gate_builtin (b := .append) (xs := #[.tmp 20, .tmp 23]) rfl ?_); at_builtin; refine Kd.R_append kH (w0 := w) w.heap.size rfl (.tmp 20) (.tmp 23) 43 47 (.agg #[.slice none 0 0]) 24 rfl Tryz.underlying43 Q.info47 rfl (show 0 < 1 by decide) (by decide) (.slice A hs.length c) hs (As, n, cs) [.slice As n cs] (fun k => w.heap.size + 3 ≤ k) (fun _ => False) rfl rfl rfl (fun _ hk => hk.elim) (fun k hk => Nat.le_trans (HSZ5.out) hk) HR5.out (HP5.out).hb (HP5.out).hb.size (by have := HHL.out; have := HN.out; omega) ?_; intro v5 w6 ho5 hb5 hg5 hat5; (obtain ⟨A9, c9, rfl⟩ := Kd.R_slice ho5); have HP6 := mk0 ((HP5.out).grown hb5 hg5 (HR5.out).1); have HR6 := mk0 ho5; have f6 := (HP6.out).cells.2.2; have q6 := (HP6.out).cells.2.1.2.1; clear ho5 hb5 hg5 hat5)
   go_roundg (fs.length - (j + 1))
   case measure => omega
   case rel => exact ⟨j + 1, A9, c9, hs ++ [(As, n, cs)], by omega, by omega, by rw [wrap_succ (by omega) (by have := HN.out; omega)]; rfl, ⟨by rw [l7_, l10_]; exact (HP6.out).setu _⟩, ⟨by have h1 := Kd.R_far HR6.out (p := ⟨w.heap.size + 2, 1, none⟩) (fun k hk he => by have h0 : k = w.heap.size + 2 := he; omega) (Value.slice A9 (hs.length + 1) c9); rw [l7_, l10_] at h1; rw [l7_, l10_]; exact h1⟩, HRS2⟩
  ·have hltz : ¬ (j : Int) < (fs.length : Int) := by omega
   have hje : j = fs.length := by omega
   subst hje
   rw [List.take_length] at HRS
   obtain ⟨⟨p0, p1⟩, ⟨q0, q1, q2⟩, f1⟩ := (HP.out).cells
   obtain ⟨⟨o0, o1, o2⟩, g0, g1, g2⟩ := (HP.out).outs
   have HO := mk0 (HP.out.out (.slice A1 sy.length c1) (.slice A hs.length c) (.slice A3 n3 c3))
   have HR3 := mk0 (Kd.R_far (Kd.R_far (Kd.R_far HR.out (p := ⟨w.heap.size + 1, 0, none⟩) (fun k hk he => by have h0 : k = w.heap.size + 1 := he; omega) (.slice A1 sy.length c1)) (p := ⟨w.heap.size + 1, 1, none⟩) (fun k hk he => by have h0 : k = w.heap.size + 1 := he; omega) (.slice A hs.length c)) (p := ⟨w.heap.size + 1, 2, none⟩) (fun k hk he => by have h0 : k = w.heap.size + 1 := he; omega) (.slice A3 n3 c3))
   obtain ⟨A9, c9, e9, hl9, hC9⟩ := C_of_heads HR3.out HRS.out (HO.out).2
   injection e9 with e1 e2 e3
   subst e1 e3
   have HC9 := mk0 hC9
   have HL9 := mk0 hl9
   rw [List.length_map] at HL9
   clear e2 hC9 hl9 HR3
   rw [HHL.out] at HO q1
   go_wp2
   refine bodyPost_ret (results_cell_row rfl _ _ (w.heap.size + 1) 45 #[.slice A1 sy.length c1, .slice A fs.length c, .slice A3 n3 c3] (0, 0) _ rfl (HO.out).1 Tryz.underlying45 rfl (by kernel_rfl)) rfl ?_
   rw [HHL.out] at HC9
   exact ⟨(HO.out).2, A, c, rfl, HL9.out, HC9.out⟩
def headOk (f : S52) : Bool := nameB f.f0 && srtB f.f1
def lenV : Option (List S47) → Nat
 | none => 0
 | some s => s.length
def endO (v : Option (List S47)) : Bool := v.isSome && decide (lenV v = 0)
def bodyOk (sy : List S71) (fs : List S52) (f : S52) : Bool := decide (tN f.f2 ≤ 400) && decide (tD f.f2 ≤ 30) && endO (ofV sy (fs.map (·.f1)) f.f1.f0 f.f2)
def schB (sy : List S71) (fs : List S52) : Bool :=
 symsB sy && decide (1 ≤ fs.length) && decide (fs.length ≤ 64) && decide ((rd_T52 fs 0).f1.f0.length = 0) && fs.all headOk && decide ((fs.map (·.f0)).Nodup) && fs.all (bodyOk sy fs)
def schV (sy : List S71) (fs : List S52) : Int := if schB sy fs then 0 else 7
theorem schV_bad {sy : List S71} {fs : List S52} (h : schB sy fs = false) : schV sy fs = 7 := by unfold schV; rw [h]; rfl
theorem schV_good {sy : List S71} {fs : List S52} (h : schB sy fs = true) : schV sy fs = 0 := by unfold schV; rw [h]; rfl
theorem all_bad {α : Type} {l : List α} {p : α → Bool} {x : α} (hx : x ∈ l) (h : p x = false) : l.all p = false := by
 cases e : l.all p with
 | false => rfl
 | true => rw [List.all_eq_true.1 e x hx] at h; cases h
theorem schB_syms {sy : List S71} {fs : List S52} (h : symsB sy = false) : schB sy fs = false := by unfold schB; rw [h]; rfl
theorem schB_none {sy : List S71} {fs : List S52} (h : fs.length = 0) : schB sy fs = false := by unfold schB; rw [l3_ (show ¬ 1 ≤ fs.length by omega)]; simp
theorem schB_many {sy : List S71} {fs : List S52} (h : 64 < fs.length) : schB sy fs = false := by unfold schB; rw [l3_ (show ¬ fs.length ≤ 64 by omega)]; simp
theorem schB_start {sy : List S71} {fs : List S52} (h : ¬ (rd_T52 fs 0).f1.f0.length = 0) : schB sy fs = false := by unfold schB; rw [l3_ h]; simp
theorem schB_head {sy : List S71} {fs : List S52} {f : S52} (hf : f ∈ fs) (h : headOk f = false) : schB sy fs = false := by unfold schB; rw [all_bad hf h]; simp
theorem schB_twice {sy : List S71} {fs : List S52} {j : Nat} (h : j < fs.length) (hm : fs[j].f0 ∈ (fs.take j).map (·.f0)) : schB sy fs = false := by
 have : ¬ (fs.map (·.f0)).Nodup := by
  have h1 : j < (fs.map (·.f0)).length := by simpa using h
  refine nodup_take_bad h1 ?_
  rw [← List.map_take]
  simpa using hm
 unfold schB
 rw [l3_ this]
 simp
theorem schB_body {sy : List S71} {fs : List S52} {f : S52} (hf : f ∈ fs) (h : bodyOk sy fs f = false) : schB sy fs = false := by unfold schB; rw [all_bad hf h]; simp
theorem schB_all {sy : List S71} {fs : List S52} (h1 : symsB sy = true) (h2 : ¬ fs.length = 0) (h3 : ¬ 64 < fs.length) (h4 : (rd_T52 fs 0).f1.f0.length = 0) (h5 : ∀ f ∈ fs, headOk f = true) (h6 : (fs.map (·.f0)).Nodup) (h7 : ∀ f ∈ fs, bodyOk sy fs f = true) : schB sy fs = true := by
 unfold schB
 rw [h1, l2_ (show 1 ≤ fs.length by omega), l2_ (show fs.length ≤ 64 by omega), l2_ h4, List.all_eq_true.2 h5, l2_ h6, List.all_eq_true.2 h7]
 rfl
theorem symsB_len {sy : List S71} (h : symsB sy = true) : sy.length ≤ 24 ∧ ∀ x ∈ sy, symOk x = true := by
 unfold symsB at h
 simp only [l19_, l20_, List.all_eq_true] at h
 exact ⟨h.2, h.1.1⟩
theorem symsB_rank {sy : List S71} (h : symsB sy = true) : ∀ x ∈ sy, 0 ≤ x.f1 ∧ x.f1 ≤ 8 := by
 intro x hx
 have := (symsB_len h).2 x hx
 unfold symOk at this
 simp only [l19_, l20_] at this
 omega
theorem headOk_N {f : S52} (h : headOk f = true) : sN f.f1 ≤ 60 ∧ ∀ s ∈ f.f1.f0, sN s ≤ 60 := by
 unfold headOk at h
 simp only [l19_] at h
 have h1 := srtB_N h.2
 refine ⟨h1, fun s hs => ?_⟩
 obtain ⟨n, ⟨l⟩, b⟩ := f
 have h2 := sN_mem hs
 simp only at h1 h2
 rw [sN] at h1
 omega
def OfC (v : Option (List S47)) (w : World) (E : Ending) (w' : World) : Prop := ∃ (A : Option Addr) (c : Nat), E = .returned (.tuple #[.agg #[.slice A (lenV v) c], .bool v.isSome]) ∧ Below w.heap.size w w'
theorem ofC_of {w0 w : World} {v : Option (List S47)} {E : Ending} {w' : World} (h : SrtE w0 v w E w') : OfC v w E w' := by
 obtain ⟨hb, ⟨rfl, rfl⟩ | ⟨s, A, c, rfl, rfl, _, _⟩⟩ := h
 ·exact ⟨none, 0, rfl, hb⟩
 ·exact ⟨A, c, rfl, hb⟩
structure CB (w W : World) (s1 s2 : Value) : Prop where
 hb : Below w.heap.size w W
 h0 : W.heap[w.heap.size]? = some (.cells #[s1, s2] 25 (0, 0))
theorem CB.below {w W W1 : World} {s1 s2 : Value} (h : CB w W s1 s2) (hb : Below W.heap.size W W1) : CB w W1 s1 s2 := ⟨aM_ h.hb h.hb.size hb, aK_ h.h0 hb⟩
theorem CB.cells {w W : World} {s1 s2 : Value} (h : CB w W s1 s2) : W.cell? ⟨w.heap.size, 0, none⟩ = some s1 ∧ W.cell? ⟨w.heap.size, 1, none⟩ = some s2 := ⟨(aC_ h.h0 0).trans rfl, (aC_ h.h0 1).trans rfl⟩
set_option maxHeartbeats 16000000 in
set_option maxRecDepth 100000 in
theorem scheme_calls (sy : List S71) (fs : List S52) (A1 A2 : Option Addr) (c1 c2 : Nat) (w : World) (hS : Kd.C k71 w A1 sy.length sy) (hF : Kd.C k52 w A2 fs.length fs) :
  Calls Tryz.prog 14 #[.agg #[.slice A1 sy.length c1, .slice A2 fs.length c2]] w fun E w' => E = .returned (.int .i64 (schV sy fs)) ∧ Below w.heap.size w w' := by
 have hmm := @run_makeMap Tryz.prog
 have HS := mk0 hS
 have HF := mk0 hF
 have HP := mk0 (CB.mk (aA_ (Below.refl w.heap.size w) (.cells #[.slice A1 sy.length c1, .slice A2 fs.length c2] 25)) (aU_ w (.cells #[.slice A1 sy.length c1, .slice A2 fs.length c2] 25)))
 have HBAD := mk0 (fun (h : schB sy fs = false) => schV_bad h)
 clear hS hF
 go_enter Tryz.func14, Tryz.ntmps14
 go_upto_region 1 with (fail)
 generalize w.alloc (.cells #[.slice A1 sy.length c1, .slice A2 fs.length c2] 25) = W1 at *
 obtain ⟨p0, p1⟩ := (HP.out).cells
 by_cases h1 : (sy.length : Int) > 24
 ·have HV := mk0 (HBAD.out (schB_syms (by unfold symsB; rw [l3_ (show ¬ sy.length ≤ 24 by omega)]; simp)))
  go_wp2
  go_ret
  exact ⟨by rw [HV.out]; rfl, (HP.out).hb⟩
 have HSL := mk0 (show sy.length ≤ 24 by omega)
 go_wp2_with fail
 refine (tsyms_calls sy A1 c1 W1 (Kd.C_below HS.out (HP.out).hb) (by have := HSL.out; omega)).mono ?_
 rintro E w2 ⟨rfl, hb⟩
 have HP2 := mk0 ((HP.out).below hb)
 clear hb p0 p1 HP
 cases q : symsB sy with
 | false =>
  have HV := mk0 (HBAD.out (schB_syms q))
  clear q
  go_wp2
  go_ret
  exact ⟨by rw [HV.out]; rfl, (HP2.out).hb⟩
 | true =>
 have HSY := mk0 q
 clear q h1
 obtain ⟨p0, p1⟩ := (HP2.out).cells
 by_cases h2 : fs.length = 0
 ·have HV := mk0 (HBAD.out (schB_none h2))
  have h2z : (fs.length : Int) = 0 := by omega
  go_wp2
  go_ret
  exact ⟨by rw [HV.out]; rfl, (HP2.out).hb⟩
 have h2z : ((fs.length : Int) == 0) = false := by simpa using h2
 by_cases h3 : 64 < fs.length
 ·have HV := mk0 (HBAD.out (schB_many h3))
  have h3z : (fs.length : Int) > 64 := by omega
  go_wp2
  go_ret
  exact ⟨by rw [HV.out]; rfl, (HP2.out).hb⟩
 have h3z : decide (64 < (fs.length : Int)) = false := l3_ (by omega)
 obtain ⟨ad, As, cs, At, ct, e, hx0, hx1, hx2, hx3, hx4, hls, hCs, hlt4, hCt⟩ := at_T52 HF.out 0 (by omega) (by omega)
 subst e
 rw [show ((0 : Int).toNat * 5) = 0 from rfl, Addr.add_zero'] at hx1
 replace hx1 := ((HP2.out).hb.cell (l1_ w _ hx1)).trans hx1
 have HN0 := mk0 (And.intro h2 h3)
 have h5z : (0 : Int) < (fs.length : Int) := by omega
 clear h2 h3 hx0 hx2 hx3 hx4 hls hCs hlt4 hCt
 have HST := mk0 (fun h => HBAD.out (schB_start (sy := sy) (fs := fs) h))
 have HSG := mk0 (fun h5 h6 h7 (h : (rd_T52 fs 0).f1.f0.length = 0) => schV_good (schB_all HSY.out (HN0.out).1 (HN0.out).2 h h5 h6 h7))
 generalize (rd_T52 fs 0).f1.f0.length = n0 at *
 by_cases h4 : n0 = 0
 case neg =>
  have HV := mk0 (HST.out h4)
  have h4z : (n0 : Int) > 0 := by omega
  go_wp2
  go_ret
  exact ⟨by rw [HV.out]; rfl, (HP2.out).hb⟩
 have HSG := mk0 (fun h5 h6 h7 => HSG.out h5 h6 h7 h4)
 subst h4
 clear HST
 go_upto_region 4 with (fail)
 have HP3 := mk0 ((HP2.out).below (aA_ (Below.refl _ _) (.map #[] 0)))
 have HM3 := mk0 (mapIs_new w2 Value.string Value.bool sdom)
 have HSZ := mk0 (show w.heap.size < w2.heap.size from blk_lt (HP2.out).h0)
 clear p0 p1 hx1 hmm HP2
 generalize w2.alloc (.map #[] 0) = w3 at *
 generalize w2.heap.size = bm at *
 obtain ⟨p0, p1⟩ := (HP3.out).cells
 go_wp2
 clear p0 p1
 go_loopg [48] fs.length (fun gg v48 wi => ∃ (j : Nat), j ≤ fs.length ∧ fs.length - j ≤ gg ∧ v48 = .int .i64 j ∧ Aside0 (CB w wi (.slice A1 sy.length c1) (.slice (some ad) fs.length c2)) ∧ Aside0 (MapIs wi bm Value.string Value.bool sdom (tru ((fs.take j).map (·.f0)))) ∧ Aside0 (∀ x ∈ fs.take j, headOk x = true))
 case atStart => exact ⟨0, by omega, by omega, rfl, HP3, HM3, ⟨fun x hx => by simp at hx⟩⟩
 case round =>
  clear HP3 HM3
  obtain ⟨j, hj, hgg, rfl, HP, HM, HOK⟩ := hrel
  by_cases hlt : j < fs.length
  ·have hltz : (j : Int) < (fs.length : Int) := by omega
   obtain ⟨ad', As, cs, At, ct, e, hx0, hx1, hx2, hx3, hx4, hls, hCs, hlt4, hCt⟩ := at_T52 HF.out (j : Int) (by omega) hltz
   obtain rfl := l13_ e
   rw [rdF_at hlt] at hx0 hx1 hx2 hx3 hx4 hls hCs hlt4 hCt
   rw [l14_] at hx0 hx1 hx2 hx3 hx4
   replace hx0 := ((HP.out).hb.cell (l1_ w _ hx0)).trans hx0
   replace hx1 := ((HP.out).hb.cell (l1_ w _ hx1)).trans hx1
   replace hx2 := ((HP.out).hb.cell (l1_ w _ hx2)).trans hx2
   replace hx3 := ((HP.out).hb.cell (l1_ w _ hx3)).trans hx3
   replace hx4 := ((HP.out).hb.cell (l1_ w _ hx4)).trans hx4
   have HHD := mk0 (fun h => HBAD.out (schB_head (sy := sy) (l11_ hlt) h))
   have HTW := mk0 (fun h => HBAD.out (schB_twice (sy := sy) hlt h))
   have HTK := mk0 (takeS hlt)
   have HCs := mk0 hCs
   have HLs := mk0 hls
   clear hCs hls hlt4 hCt e
   generalize fs[j] = f at *
   go_upto_region 7 with (fail)
   have HX5 := mk0 (aU_ wr (.cells #[.string f.f0, .slice As f.f1.f0.length cs, .int .i64 f.f2.f0, .int .i64 f.f2.f1, .slice At f.f2.f2.length ct] 52))
   have HP5 := mk0 ((HP.out).below (aA_ (Below.refl _ _) (.cells #[.string f.f0, .slice As f.f1.f0.length cs, .int .i64 f.f2.f0, .int .i64 f.f2.f1, .slice At f.f2.f2.length ct] 52)))
   have HM5 := mk0 (HM.out.below (aA_ (Below.refl _ _) (.cells #[.string f.f0, .slice As f.f1.f0.length cs, .int .i64 f.f2.f0, .int .i64 f.f2.f1, .slice At f.f2.f2.length ct] 52)))
   clear hx0 hx1 hx2 hx3 hx4 HP HM
   generalize (wr.alloc (.cells #[.string f.f0, .slice As f.f1.f0.length cs, .int .i64 f.f2.f0, .int .i64 f.f2.f1, .slice At f.f2.f2.length ct] 52)) = w5 at *
   generalize wr.heap.size = b7 at *
   have m0 : w5.cell? ⟨b7, 0, none⟩ = some (.string f.f0) := (aC_ HX5.out 0).trans rfl
   go_wp2_with fail
   refine (name_calls f.f0 w5).mono ?_
   rintro E w6 ⟨rfl, hb⟩
   have HP6 := mk0 ((HP5.out).below hb)
   have HM6 := mk0 (HM5.out.below hb)
   have HX6 := mk0 (aK_ HX5.out hb)
   clear hb m0 HP5 HM5 HX5
   cases q : nameB f.f0 with
   | false =>
    have HV := mk0 (HHD.out (by unfold headOk; rw [q]; rfl))
    clear q
    go_wp2
    go_ret
    exact ⟨by rw [HV.out]; rfl, (HP6.out).hb⟩
   | true =>
   have HN := mk0 q
   clear q
   have m0 : w6.cell? ⟨b7, 0, none⟩ = some (.string f.f0) := (aC_ HX6.out 0).trans rfl
   have m1 : w6.cell? ⟨b7, 1, none⟩ = some (.slice As f.f1.f0.length cs) := (aC_ HX6.out 1).trans rfl
   have hl := MapIs.look HM6.out keyStr Tryz.underlying59 (zero4 w6) (name_dom HN.out) false
   by_cases hm : f.f0 ∈ (fs.take j).map (·.f0)
   ·rw [mget_tru_mem hm] at hl
    simp only [Bool.false_eq_true, if_false] at hl
    have HV := mk0 (HTW.out hm)
    clear hm
    go_wp2
    go_ret
    exact ⟨by rw [HV.out]; rfl, (HP6.out).hb⟩
   have HNM := mk0 hm
   rw [mget_tru_not hm] at hl
   simp only [Bool.false_eq_true, if_false] at hl
   clear hm
   have HSC := mk0 (scheck_calls f.f1 As cs w6 (Kd.C_below HCs.out (HP6.out).hb) HLs.out)
   go_wp2_with fail
   refine (HSC.out).mono ?_
   rintro E w7 ⟨rfl, hb⟩
   have HP7 := mk0 ((HP6.out).below hb)
   have HM7 := mk0 (HM6.out.below hb)
   have HX7 := mk0 (aK_ HX6.out hb)
   clear hb m0 m1 HP6 HM6 HX6 hl HSC
   cases q : srtB f.f1 with
   | false =>
    have HV := mk0 (HHD.out (by unfold headOk; rw [q]; simp))
    rw [show schkV f.f1 = 6 by unfold schkV; rw [q]; rfl]
    clear q
    go_wp2
    go_ret
    exact ⟨by rw [HV.out]; rfl, (HP7.out).hb⟩
   | true =>
   have HOU := mk0 (show headOk f = true by unfold headOk; rw [HN.out, q]; rfl)
   rw [show schkV f.f1 = 0 by unfold schkV; rw [q]; rfl]
   clear q
   have m0 : w7.cell? ⟨b7, 0, none⟩ = some (.string f.f0) := (aC_ HX7.out 0).trans rfl
   obtain ⟨w8, hput, HM8, hg8⟩ := MapIs.put HM7.out keyStr Tryz.underlying59 (name_dom HN.out) true
   rw [mput_new (by rw [tru_keys]; exact HNM.out)] at HM8
   have HM8 := mk0 (show MapIs w8 bm Value.string Value.bool sdom (tru ((fs.take (j + 1)).map (·.f0))) by rw [HTK.out, List.map_append]; unfold tru at HM8 ⊢; rw [List.map_append]; exact HM8)
   have HP8 := mk0 (CB.mk (pw_below_grown (HP7.out).hb _ (HP7.out).hb.size hg8 (fun k hk => by cases hk; have := HSZ.out; omega)) (blk_grown (HP7.out).h0 hg8 (fun e => by have := l13_ e; have := HSZ.out; omega)))
   have HA8 := mk0 (show ∀ x ∈ fs.take (j + 1), headOk x = true from fun x hx => by
    rw [HTK.out] at hx
    rcases List.mem_append.1 hx with hx | hx
    ·exact HOK.out x hx
    ·obtain rfl := List.mem_singleton.1 hx; exact HOU.out)
   clear hg8
   go_wp2
   go_roundg (fs.length - (j + 1))
   case measure => omega
   case rel => exact ⟨j + 1, by omega, by omega, by rw [wrap_succ (by omega) (by have := (HN0.out).2; omega)]; rfl, HP8, HM8, HA8⟩
  ·have hltz : ¬ (j : Int) < (fs.length : Int) := by omega
   have hje : j = fs.length := by omega
   subst hje
   rw [List.take_length] at HM HOK
   have HND := mk0 (show (fs.map (·.f0)).Nodup from by have := (HM.out).2.1; rw [tru_keys] at this; exact this)
   have HSG2 := mk0 (fun h7 => HSG.out HOK.out HND.out h7)
   have HPV := mk0 (fun f (hf : f ∈ fs) => (show PV sy (fs.map (·.f1)) f.f1.f0 from ⟨symsB_rank HSY.out, fun s hs => by obtain ⟨g, hg, rfl⟩ := List.mem_map.1 hs; exact (headOk_N (HOK.out g hg)).1, (headOk_N (HOK.out f hf)).2⟩))
   obtain ⟨p0, p1⟩ := (HP.out).cells
   clear HSG HND HM HOK
   go_wp2
   clear p0 p1
   go_loopg [75] fs.length (fun gg v75 wi => ∃ (j : Nat), j ≤ fs.length ∧ fs.length - j ≤ gg ∧ v75 = .int .i64 j ∧ Aside0 (CB w wi (.slice A1 sy.length c1) (.slice (some ad) fs.length c2)) ∧ Aside0 (∀ (i : Nat) (h : i < fs.length), i < j → bodyOk sy fs fs[i] = true))
   case atStart => exact ⟨0, by omega, by omega, rfl, HP, ⟨fun i _ h => absurd h (Nat.not_lt_zero _)⟩⟩
   case round =>
    clear HP
    obtain ⟨j, hj, hgg, rfl, HP, HOK⟩ := hrel
    by_cases hlt : j < fs.length
    ·have hltz : (j : Int) < (fs.length : Int) := by omega
     obtain ⟨ad', As, cs, At, ct, e, hx0, hx1, hx2, hx3, hx4, hls, hCs, hlt4, hCt⟩ := at_T52 HF.out (j : Int) (by omega) hltz
     obtain rfl := l13_ e
     rw [rdF_at hlt] at hx0 hx1 hx2 hx3 hx4 hls hCs hlt4 hCt
     rw [l14_] at hx0 hx1 hx2 hx3 hx4
     replace hx0 := ((HP.out).hb.cell (l1_ w _ hx0)).trans hx0
     replace hx1 := ((HP.out).hb.cell (l1_ w _ hx1)).trans hx1
     replace hx2 := ((HP.out).hb.cell (l1_ w _ hx2)).trans hx2
     replace hx3 := ((HP.out).hb.cell (l1_ w _ hx3)).trans hx3
     replace hx4 := ((HP.out).hb.cell (l1_ w _ hx4)).trans hx4
     have HBD := mk0 (fun h => HBAD.out (schB_body (sy := sy) (l11_ hlt) h))
     have HGD := mk0 (show bodyOk sy fs fs[j] = true → ∀ (i : Nat) (h : i < fs.length), i < j + 1 → bodyOk sy fs fs[i] = true from fun h i hi hij => by
      by_cases e : i = j
      ·subst e; exact h
      ·exact HOK.out i hi (by omega))
     have HPJ := mk0 (HPV.out _ (l11_ hlt))
     have HCs := mk0 hCs
     have HLs := mk0 hls
     have HCt := mk0 hCt
     have HLt := mk0 hlt4
     clear hCs hls hlt4 hCt e
     generalize fs[j] = f at *
     go_upto_region 14 with (fail)
     have HX5 := mk0 (aU_ wr (.cells #[.string f.f0, .slice As f.f1.f0.length cs, .int .i64 f.f2.f0, .int .i64 f.f2.f1, .slice At f.f2.f2.length ct] 52))
     have HP5 := mk0 ((HP.out).below (aA_ (Below.refl _ _) (.cells #[.string f.f0, .slice As f.f1.f0.length cs, .int .i64 f.f2.f0, .int .i64 f.f2.f1, .slice At f.f2.f2.length ct] 52)))
     clear hx0 hx1 hx2 hx3 hx4 HP
     generalize (wr.alloc (.cells #[.string f.f0, .slice As f.f1.f0.length cs, .int .i64 f.f2.f0, .int .i64 f.f2.f1, .slice At f.f2.f2.length ct] 52)) = w5 at *
     generalize wr.heap.size = b7 at *
     have m2 : w5.cell? ⟨b7, 2, none⟩ = some (.int .i64 f.f2.f0) := (aC_ HX5.out 2).trans rfl
     have m3 : w5.cell? ⟨b7, 3, none⟩ = some (.int .i64 f.f2.f1) := (aC_ HX5.out 3).trans rfl
     have m4 : w5.cell? ⟨b7, 4, none⟩ = some (.slice At f.f2.f2.length ct) := (aC_ HX5.out 4).trans rfl
     have HTS := mk0 (tsize_calls f.f2 At ct w5 (Kd.C_below HCt.out (HP5.out).hb) HLt.out)
     go_wp2_with fail
     refine (HTS.out).mono ?_
     rintro E w6 ⟨rfl, hb⟩
     have HP6 := mk0 ((HP5.out).below hb)
     have HX6 := mk0 (aK_ HX5.out hb)
     clear hb m2 m3 m4 HP5 HX5 HTS
     by_cases ht : tN f.f2 ≤ 400
     case neg =>
      have HV := mk0 (HBD.out (by unfold bodyOk; rw [l3_ ht]; rfl))
      have htz : (tsizeV f.f2).1 > 400 := by
       unfold tsizeV
       by_cases h : tN f.f2 ≤ 100000
       ·rw [if_pos h]; simp only; omega
       ·rw [if_neg h]; simp only; omega
      clear ht
      generalize (tsizeV f.f2).1 = z1 at *
      generalize (tsizeV f.f2).2 = z2 at *
      go_wp2
      go_ret
      exact ⟨by rw [HV.out]; rfl, (HP6.out).hb⟩
     have HTN := mk0 ht
     rw [show tsizeV f.f2 = ((tN f.f2 : Int), (tD f.f2 : Int)) from if_pos (by omega)]
     have htz : ¬ (tN f.f2 : Int) > 400 := by omega
     by_cases hd : tD f.f2 ≤ 30
     case neg =>
      have HV := mk0 (HBD.out (by unfold bodyOk; rw [l3_ hd]; simp))
      have hdz : (tD f.f2 : Int) > 30 := by omega
      clear ht hd
      generalize (tN f.f2 : Int) = z1 at *
      generalize (tD f.f2 : Int) = z2 at *
      go_wp2
      go_ret
      exact ⟨by rw [HV.out]; rfl, (HP6.out).hb⟩
     have hdz : ¬ (tD f.f2 : Int) > 30 := by omega
     have HBO := mk0 (show bodyOk sy fs f = endO (ofV sy (fs.map (·.f1)) f.f1.f0 f.f2) from by unfold bodyOk; rw [l2_ ht, l2_ hd, Bool.true_and, Bool.true_and])
     clear ht hd
     generalize (tN f.f2 : Int) = z1 at *
     generalize (tD f.f2 : Int) = z2 at *
     go_upto_region 17 with (fail)
     have HK := mk0 (fun (W : World) (hW : Below w6.heap.size w6 W) => (show (W.cell? ⟨w.heap.size, 0, none⟩ = some (.slice A1 sy.length c1) ∧ W.cell? ⟨w.heap.size, 1, none⟩ = some (.slice (some ad) fs.length c2)) ∧ W.cell? ⟨b7, 1, none⟩ = some (.slice As f.f1.f0.length cs) ∧ W.cell? ⟨b7, 2, none⟩ = some (.int .i64 f.f2.f0) ∧ W.cell? ⟨b7, 3, none⟩ = some (.int .i64 f.f2.f1) ∧ W.cell? ⟨b7, 4, none⟩ = some (.slice At f.f2.f2.length ct) from
      ⟨((HP6.out).below hW).cells, (aC_ (aK_ HX6.out hW) 1).trans rfl, (aC_ (aK_ HX6.out hW) 2).trans rfl, (aC_ (aK_ HX6.out hW) 3).trans rfl, (aC_ (aK_ HX6.out hW) 4).trans rfl⟩))
     have HPL := mk0 (fun (W : World) (hW : Below w6.heap.size w6 W) => place_calls sy fs A1 (some ad) As f.f1.f0.length c1 c2 cs W (Kd.C_below HF.out ((HP6.out).below hW).hb) (by have := (HN0.out).2; omega))
     have HOF := mk0 (fun (W0 W : World) (A : Option Addr) (c : Nat) (hC : Kd.C k47 W0 A (fs.map (·.f1)).length (fs.map (·.f1))) (hW0 : Below w6.heap.size w6 W0) (hW : Below W0.heap.size W0 W) =>
      (show Calls Tryz.prog 43 #[.agg #[.slice A1 sy.length c1, .slice A fs.length c, .slice As f.f1.f0.length cs], .agg #[.int .i64 f.f2.f0, .int .i64 f.f2.f1, .slice At f.f2.f2.length ct]] W (OfC (ofV sy (fs.map (·.f1)) f.f1.f0 f.f2) W) from by
       have h := pof_calls sy (fs.map (·.f1)) f.f1.f0 HPJ.out A1 A As c1 c cs W0 (Kd.C_below HS.out ((HP6.out).below hW0).hb) hC (Kd.C_below HCs.out ((HP6.out).below hW0).hb) f.f2 (by have := HTN.out; omega) At ct W (Kd.C_below HCt.out ((HP6.out).below hW0).hb) HLt.out hW
       rw [List.length_map] at h
       exact h.mono fun E w' hE => ofC_of hE))
     unfold PlaceE at HPL
     unfold OfC at HOF
     have HEO := mk0 (show endO (ofV sy (fs.map (·.f1)) f.f1.f0 f.f2) = ((ofV sy (fs.map (·.f1)) f.f1.f0 f.f2).isSome && decide (lenV (ofV sy (fs.map (·.f1)) f.f1.f0 f.f2) = 0)) from rfl)
     generalize (ofV sy (fs.map (·.f1)) f.f1.f0 f.f2).isSome = vb at *
     generalize lenV (ofV sy (fs.map (·.f1)) f.f1.f0 f.f2) = vn at *
     have hd := below_drew (Below.refl w6.heap.size w6)
     go_region_held3 (fun w' => (w'.cell? ⟨w.heap.size, 0, none⟩ = some (.slice A1 sy.length c1) ∧ w'.cell? ⟨w.heap.size, 1, none⟩ = some (.slice (some ad) fs.length c2)) ∧ w'.cell? ⟨b7, 1, none⟩ = some (.slice As f.f1.f0.length cs) ∧ w'.cell? ⟨b7, 2, none⟩ = some (.int .i64 f.f2.f0) ∧ w'.cell? ⟨b7, 3, none⟩ = some (.int .i64 f.f2.f1) ∧ w'.cell? ⟨b7, 4, none⟩ = some (.slice At f.f2.f2.length ct))
      (first | exact HK.out _ hd | exact HK.out _ hd1 | exact HK.out _ hd2 | exact HK.out _ (below_drew (aA_ (Below.refl w6.heap.size w6) (.cells #[.slice none 0 0] 47))) | exact HK.out _ (aA_ hd1 (.cells #[.slice none 0 0] 47)) | exact HK.out _ (aA_ hd2 (.cells #[.slice none 0 0] 47)) | exact HK.out _ (aA_ hd2 (.cells #[.slice Ao vn co] 47)) | exact HK.out _ (hd2.setCell (p := ⟨wp.heap.size, 0, none⟩) hle _) | exact HK.out _ (hd2.setCell (p := ⟨w6.heap.size, 0, none⟩) (Nat.le_refl _) _) | fail)
      (first
       | (go_at_call 42; (first | (with_reducible refine (HPL.out _ hd).mono ?_) | (have HN : ((w6.alloc (.cells #[.slice none 0 0] 47)).drew).heap[w6.heap.size]? = some (.cells #[.slice none 0 0] 47 (0, 0)) := aH_ (aU_ w6 _); have hd := below_drew (aA_ (Below.refl w6.heap.size w6) (.cells #[.slice none 0 0] 47)); with_reducible refine (HPL.out _ hd).mono ?_)); rintro E wp ⟨hbp, Apl, cpl, rfl, hlpl, hCpl⟩; have hd1 := aM_ hd hd.size hbp; (try have HN1 := aK_ HN hbp); have HCP := mk0 hCpl; have hle := hd1.size; clear hlpl hCpl hbp; (try clear HN); clear hd)
       | (go_at_call 43; (first | (with_reducible refine (HOF.out _ _ _ _ HCP.out hd1 (Below.refl _ _)).mono ?_) | (have HN1 : (wp.alloc (.cells #[.slice none 0 0] 47)).heap[wp.heap.size]? = some (.cells #[.slice none 0 0] 47 (0, 0)) := aU_ wp _; have hd3 := aA_ (Below.refl wp.heap.size wp) (.cells #[.slice none 0 0] 47); have hd1' := aA_ hd1 (.cells #[.slice none 0 0] 47); with_reducible refine (HOF.out _ _ _ _ HCP.out hd1 hd3).mono ?_; clear hd1; have hd1 := hd1'; clear hd1' hd3)); rintro E wo ⟨Ao, co, rfl, hbo⟩; have hd2 := aM_ hd1 hd1.size hbo; (try have HN2 := aK_ HN1 hbo); clear hbo; (try clear HN1); clear hd1; (try (have hk0 := (aC_ HN2 0).trans rfl; have hf0 := aJ_ HN2 0)))
       | fail)
     all_goals
      first
       | (have HX10 := mk0 (show (wo.setCell ⟨wp.heap.size, 0, none⟩ (.slice Ao vn co)).heap[wp.heap.size]? = some (.cells #[.slice Ao vn co] 47 (0, 0)) from blk_set HN2 0 (.slice Ao vn co))
          have hbz := hd2.setCell (p := ⟨wp.heap.size, 0, none⟩) hle (.slice Ao vn co)
          generalize (wo.setCell ⟨wp.heap.size, 0, none⟩ (.slice Ao vn co)) = Wz at *
          clear HN2 hk0 hf0
          generalize wp.heap.size = b10 at *)
       | (have HX10 := mk0 (show (wo.setCell ⟨w6.heap.size, 0, none⟩ (.slice Ao vn co)).heap[w6.heap.size]? = some (.cells #[.slice Ao vn co] 47 (0, 0)) from blk_set HN2 0 (.slice Ao vn co))
          have hbz := hd2.setCell (p := ⟨w6.heap.size, 0, none⟩) (Nat.le_refl _) (.slice Ao vn co)
          generalize (wo.setCell ⟨w6.heap.size, 0, none⟩ (.slice Ao vn co)) = Wz at *
          have HP10 := mk0 ((HP6.out).below hbz)
          clear HN2 hk0 hf0 hbz hle hd2 HPL HOF HK HP6
          generalize w6.heap.size = b10 at *)
       | (have HX10 := mk0 (aU_ wo (.cells #[.slice Ao vn co] 47))
          have hbz := aA_ hd2 (.cells #[.slice Ao vn co] 47)
          generalize (wo.alloc (.cells #[.slice Ao vn co] 47)) = Wz at *
          generalize wo.heap.size = b10 at *)
      (try have HP10 := mk0 ((HP6.out).below hbz))
      have k0 : Wz.cell? ⟨b10, 0, none⟩ = some (.slice Ao vn co) := (aC_ HX10.out 0).trans rfl
      cases vb with
      | false =>
       have HV := mk0 (HBD.out (by rw [HBO.out, HEO.out]; rfl))
       go_wp2
       go_ret
       refine ⟨?_, (HP10.out).hb⟩
       rw [HV.out]; rfl
      | true =>
      by_cases hvn : vn = 0
      ·have HG := mk0 (HGD.out (by rw [HBO.out, HEO.out, l2_ hvn]; rfl))
       subst hvn
       go_wp2
       go_roundg (fs.length - (j + 1))
       case measure => omega
       case rel => exact ⟨j + 1, by omega, by omega, by rw [wrap_succ (by omega) (by have := (HN0.out).2; omega)]; rfl, HP10, HG⟩
      ·have HV := mk0 (HBD.out (by rw [HBO.out, HEO.out, l3_ hvn]; rfl))
       have hvz : (0 : Int) < (vn : Int) := by omega
       go_wp2
       go_ret
       refine ⟨?_, (HP10.out).hb⟩
       rw [HV.out]; rfl
    ·have hltz : ¬ (j : Int) < (fs.length : Int) := by omega
     have hje : j = fs.length := by omega
     subst hje
     have HV := mk0 (HSG2.out (fun f hf => by obtain ⟨i, hi, rfl⟩ := List.mem_iff_getElem.1 hf; exact HOK.out i hi hi))
     go_wp2
     go_ret
     refine ⟨?_, (HP.out).hb⟩
     rw [HV.out]
     all_goals first | rfl | trivial
theorem requal_calls (a b : S47) (A : Option Addr) (c : Nat) (B : Option Addr) (d : Nat) (w : World) (ha : Kd.C k47 w A a.f0.length a.f0) (hac : a.f0.length ≤ c) (hb : Kd.C k47 w B b.f0.length b.f0) (hbc : b.f0.length ≤ d) (hn : sN a ≤ 1000000) :
  Calls Tryz.prog 86 #[.agg #[.slice A a.f0.length c], .agg #[.slice B b.f0.length d]] w fun E w' => E = .returned (.bool (sE a b)) ∧ Below w.heap.size w w' := by
 obtain ⟨k, hk⟩ := (equal_ev 1000000 a b hn (by omega)).rounds
 exact Q.virgationref01_Equal.calls k A c a.f0 B d b.f0 (sE a b) w ha hac hb hbc hk
structure RB3 (w W : World) (s1 s2 s3 x y z r : Value) : Prop where
 hb : Below w.heap.size w W
 h0 : W.heap[w.heap.size]? = some (.cells #[s1, s2, s3] 109 (0, 0))
 h1 : W.heap[w.heap.size + 1]? = some (.cells #[x, y, z] 50 (0, 0))
 h2 : W.heap[w.heap.size + 2]? = some (.cells #[r] 47 (0, 0))
theorem RB3.start (w : World) (s1 s2 s3 x y z r : Value) : RB3 w (((w.alloc (.cells #[s1, s2, s3] 109)).alloc (.cells #[x, y, z] 50)).alloc (.cells #[r] 47)) s1 s2 s3 x y z r :=
 ⟨aA_ (aA_ (aA_ (Below.refl _ _) _) _) _, aD_ (aD_ (aU_ w _) _) _, aD_ (blk_at2 w _ _) _, blk_at3 w _ _ _⟩
theorem RB3.below {w W W1 : World} {s1 s2 s3 x y z r : Value} (h : RB3 w W s1 s2 s3 x y z r) (hb : Below W.heap.size W W1) : RB3 w W1 s1 s2 s3 x y z r :=
 ⟨aM_ h.hb h.hb.size hb, aK_ h.h0 hb, aK_ h.h1 hb, aK_ h.h2 hb⟩
theorem RB3.set {w W : World} {s1 s2 s3 x y z r : Value} (h : RB3 w W s1 s2 s3 x y z r) (u : Value) : RB3 w (W.setCell ⟨w.heap.size + 2, 0, none⟩ u) s1 s2 s3 x y z u :=
 ⟨h.hb.setCell (p := ⟨w.heap.size + 2, 0, none⟩) (by show w.heap.size ≤ w.heap.size + 2; omega) _, aT_ h.h0 (by show w.heap.size ≠ w.heap.size + 2; omega) _, aT_ h.h1 (by show w.heap.size + 1 ≠ w.heap.size + 2; omega) _, blk_set h.h2 0 u⟩
theorem RB3.cells {w W : World} {s1 s2 s3 x y z r : Value} (h : RB3 w W s1 s2 s3 x y z r) : (W.cell? ⟨w.heap.size, 0, none⟩ = some s1 ∧ W.cell? ⟨w.heap.size, 1, none⟩ = some s2 ∧ W.cell? ⟨w.heap.size, 2, none⟩ = some s3) ∧ (W.cell? ⟨w.heap.size + 1, 0, none⟩ = some x ∧ W.cell? ⟨w.heap.size + 1, 1, none⟩ = some y ∧ W.cell? ⟨w.heap.size + 1, 2, none⟩ = some z) ∧ W.cell? ⟨w.heap.size + 2, 0, none⟩ = some r ∧ W.frozen? ⟨w.heap.size + 2, 0, none⟩ = false :=
 ⟨⟨(aC_ h.h0 0).trans rfl, (aC_ h.h0 1).trans rfl, (aC_ h.h0 2).trans rfl⟩, ⟨(aC_ h.h1 0).trans rfl, (aC_ h.h1 1).trans rfl, (aC_ h.h1 2).trans rfl⟩, (aC_ h.h2 0).trans rfl, aJ_ h.h2 0⟩
set_option maxHeartbeats 8000000 in
set_option maxRecDepth 100000 in
theorem rhead_calls (sy : List S71) (fu pa : List S47) (t : S50) (A1 A2 A3 A : Option Addr) (c1 c2 c3 c : Nat) (w0 w : World) (h1 : Kd.C k71 w0 A1 sy.length sy) (h2 : Kd.C k47 w0 A2 fu.length fu) (h3 : Kd.C k47 w0 A3 pa.length pa) (hB : Below w0.heap.size w0 w)
  (hrk : ∀ x ∈ sy, 0 ≤ x.f1 ∧ x.f1 ≤ 8) :
  Calls Tryz.prog 110 #[.agg #[.slice A1 sy.length c1, .slice A2 fu.length c2, .slice A3 pa.length c3], .agg #[.int .i64 t.f0, .int .i64 t.f1, .slice A t.f2.length c]] w (SrtE w0 (headV sy fu pa t.f0 t.f1) w) := by
 obtain ⟨k, n, l⟩ := t
 have H1 := mk0 h1
 have H2 := mk0 h2
 have H3 := mk0 h3
 have HRK := mk0 hrk
 have HP := mk0 (RB3.start w (.slice A1 sy.length c1) (.slice A2 fu.length c2) (.slice A3 pa.length c3) (.int .i64 k) (.int .i64 n) (.slice A l.length c) (.slice none 0 0))
 have HB0 := mk0 (aM_ hB hB.size (HP.out).hb)
 clear h1 h2 h3 hrk hB
 have HNO := mk0 (fun (W : World) (E : Ending) (hv : headV sy fu pa k n = none) (hE : E = .returned (.tuple #[.agg #[.slice none 0 0], .bool false])) (hb : Below w.heap.size w W) => (show SrtE w0 (headV sy fu pa k n) w E W from ⟨hb, .inl ⟨hv, hE⟩⟩))
 show Calls Tryz.prog 110 #[.agg #[.slice A1 sy.length c1, .slice A2 fu.length c2, .slice A3 pa.length c3], .agg #[.int .i64 k, .int .i64 n, .slice A l.length c]] w (SrtE w0 (headV sy fu pa k n) w)
 go_enter Tryz.func110, Tryz.ntmps110
 go_upto_region 1 with (fail)
 generalize ((w.alloc (.cells #[.slice A1 sy.length c1, .slice A2 fu.length c2, .slice A3 pa.length c3] 109)).alloc (.cells #[.int .i64 k, .int .i64 n, .slice A l.length c] 50)).alloc (.cells #[.slice none 0 0] 47) = W1 at *
 obtain ⟨⟨p0, p1, p2⟩, ⟨q0, q1, q2⟩, r0, r1⟩ := (HP.out).cells
 by_cases hn : n < 0
 ·have HV := mk0 (show headV sy fu pa k n = none from if_pos hn)
  have HP2 := mk0 ((HP.out).set (.slice none 0 0))
  go_wp2
  refine bodyPost_ret (aQ_ rfl _ _ (w.heap.size + 2) 47 #[.slice none 0 0] (0, 0) _ rfl (HP2.out).h2 Tryz.underlying47 rfl (by kernel_rfl)) rfl ?_
  exact HNO.out _ _ HV.out rfl (HP2.out).hb
 have hV0 : headV sy fu pa k n = if k = 0 then (if n < (pa.length : Int) then some (rd_T47 pa n).f0 else none) else if k = 1 then (if n < (fu.length : Int) then some (rd_T47 fu n).f0 else none) else if k = 2 then (if n < (sy.length : Int) then some (List.replicate (rd_T71 sy n).f1.toNat ⟨[]⟩) else none) else none := if_neg hn
 have HV0 := mk0 hV0
 clear hV0
 by_cases hk0 : k = 0
 ·by_cases hl : n < (pa.length : Int)
  ·obtain ⟨ad, A0, c0, e, hx0, hl0, hC0⟩ := at_T47 (H3.out) n (by omega) hl
   subst e
   replace hx0 := ((HB0.out).cell (l1_ w0 _ hx0)).trans hx0
   have HV := mk0 (show headV sy fu pa k n = some (rd_T47 pa n).f0 by rw [HV0.out, if_pos hk0, if_pos hl])
   have HL := mk0 hl0
   have HC := mk0 hC0
   generalize (rd_T47 pa n).f0 = s at *
   have HP2 := mk0 ((HP.out).set (.slice A0 s.length c0))
   have hnn : 0 ≤ n := by omega
   subst hk0
   clear hl0 hC0 hn
   go_wp2
   refine bodyPost_ret (aQ_ rfl _ _ (w.heap.size + 2) 47 #[.slice A0 s.length c0] (0, 0) _ rfl (HP2.out).h2 Tryz.underlying47 rfl (by kernel_rfl)) rfl ?_
   exact ⟨(HP2.out).hb, .inr ⟨s, A0, c0, HV.out, rfl, HL.out, .inl HC.out⟩⟩
  ·have HV := mk0 (show headV sy fu pa k n = none by rw [HV0.out, if_pos hk0, if_neg hl])
   have HP2 := mk0 ((HP.out).set (.slice none 0 0))
   subst hk0
   go_wp2
   refine bodyPost_ret (aQ_ rfl _ _ (w.heap.size + 2) 47 #[.slice none 0 0] (0, 0) _ rfl (HP2.out).h2 Tryz.underlying47 rfl (by kernel_rfl)) rfl ?_
   exact HNO.out _ _ HV.out rfl (HP2.out).hb
 by_cases hk1 : k = 1
 ·by_cases hl : n < (fu.length : Int)
  ·obtain ⟨ad, A0, c0, e, hx0, hl0, hC0⟩ := at_T47 (H2.out) n (by omega) hl
   subst e
   replace hx0 := ((HB0.out).cell (l1_ w0 _ hx0)).trans hx0
   have HV := mk0 (show headV sy fu pa k n = some (rd_T47 fu n).f0 by rw [HV0.out, if_neg hk0, if_pos hk1, if_pos hl])
   have HL := mk0 hl0
   have HC := mk0 hC0
   generalize (rd_T47 fu n).f0 = s at *
   have HP2 := mk0 ((HP.out).set (.slice A0 s.length c0))
   have hnn : 0 ≤ n := by omega
   subst hk1
   clear hl0 hC0 hn hk0
   go_wp2
   refine bodyPost_ret (aQ_ rfl _ _ (w.heap.size + 2) 47 #[.slice A0 s.length c0] (0, 0) _ rfl (HP2.out).h2 Tryz.underlying47 rfl (by kernel_rfl)) rfl ?_
   exact ⟨(HP2.out).hb, .inr ⟨s, A0, c0, HV.out, rfl, HL.out, .inl HC.out⟩⟩
  ·have HV := mk0 (show headV sy fu pa k n = none by rw [HV0.out, if_neg hk0, if_pos hk1, if_neg hl])
   have HP2 := mk0 ((HP.out).set (.slice none 0 0))
   subst hk1
   clear hk0
   go_wp2
   refine bodyPost_ret (aQ_ rfl _ _ (w.heap.size + 2) 47 #[.slice none 0 0] (0, 0) _ rfl (HP2.out).h2 Tryz.underlying47 rfl (by kernel_rfl)) rfl ?_
   exact HNO.out _ _ HV.out rfl (HP2.out).hb
 by_cases hk2 : k = 2
 ·by_cases hl : n < (sy.length : Int)
  ·obtain ⟨ad, e, hx0, hx1⟩ := at_T71 (H1.out) n (by omega) hl
   subst e
   replace hx1 := ((HB0.out).cell (l1_ w0 _ hx1)).trans hx1
   have HV := mk0 (show headV sy fu pa k n = some (List.replicate (rd_T71 sy n).f1.toNat ⟨[]⟩) by rw [HV0.out, if_neg hk0, if_neg hk1, if_pos hk2, if_pos hl])
   have hr := HRK.out (rd_T71 sy n) (by
    obtain ⟨j, rfl⟩ := Int.eq_ofNat_of_zero_le (show 0 ≤ n by omega)
    rw [rdY_at (by omega)]
    exact l11_ _)
   generalize (rd_T71 sy n).f1 = rk at *
   obtain ⟨m, rfl⟩ := Int.eq_ofNat_of_zero_le hr.1
   rw [l14_] at HV
   have HM := mk0 (show m ≤ 1000 by omega)
   have hmk := mk47 m HM.out
   have HP2 := mk0 ((HP.out).below (aA_ (Below.refl _ _) (.cells (madeCells #[.slice none 0 0] m) 47)))
   have HP3 := mk0 ((HP2.out).set (.slice (some ⟨W1.heap.size, 0, none⟩) m m))
   have HC := mk0 (aU_ W1 (.cells (madeCells #[.slice none 0 0] m) 47))
   have HSZ := mk0 (show w.heap.size + 2 < W1.heap.size from blk_lt (HP.out).h2)
   obtain ⟨_, _, r3, r4⟩ := (HP2.out).cells
   have hnn : 0 ≤ n := by omega
   subst hk2
   clear hr hx0 hn hk0 hk1
   go_wp2
   refine bodyPost_ret (aQ_ rfl _ _ (w.heap.size + 2) 47 #[.slice (some ⟨W1.heap.size, 0, none⟩) m m] (0, 0) _ rfl (HP3.out).h2 Tryz.underlying47 rfl (by kernel_rfl)) rfl ?_
   refine ⟨(HP3.out).hb, .inr ⟨List.replicate m ⟨[]⟩, some ⟨W1.heap.size, 0, none⟩, m, HV.out, by rw [List.length_replicate]; rfl, by simp, .inr ⟨W1.heap.size, 0, m, rfl, by rw [List.length_replicate], by rw [List.length_replicate]; omega, HM.out, by have := HSZ.out; omega, aT_ HC.out (by have := HSZ.out; show W1.heap.size ≠ w.heap.size + 2; omega) _⟩⟩⟩
  ·have HV := mk0 (show headV sy fu pa k n = none by rw [HV0.out, if_neg hk0, if_neg hk1, if_pos hk2, if_neg hl])
   have HP2 := mk0 ((HP.out).set (.slice none 0 0))
   subst hk2
   clear hk0 hk1
   go_wp2
   refine bodyPost_ret (aQ_ rfl _ _ (w.heap.size + 2) 47 #[.slice none 0 0] (0, 0) _ rfl (HP2.out).h2 Tryz.underlying47 rfl (by kernel_rfl)) rfl ?_
   exact HNO.out _ _ HV.out rfl (HP2.out).hb
 ·have HV := mk0 (show headV sy fu pa k n = none by rw [HV0.out, if_neg hk0, if_neg hk1, if_neg hk2])
  have HP2 := mk0 ((HP.out).set (.slice none 0 0))
  go_wp2
  refine bodyPost_ret (aQ_ rfl _ _ (w.heap.size + 2) 47 #[.slice none 0 0] (0, 0) _ rfl (HP2.out).h2 Tryz.underlying47 rfl (by kernel_rfl)) rfl ?_
  exact HNO.out _ _ HV.out rfl (HP2.out).hb
structure RB4 (w W : World) (s1 s2 s3 x y z r : Value) (b6 : Nat) (u : Value) : Prop where
 p : RB3 w W s1 s2 s3 x y z r
 h6 : W.heap[b6]? = some (.cells #[u] 47 (0, 0))
 hlt : w.heap.size + 2 < b6
theorem RB4.below {w W W1 : World} {s1 s2 s3 x y z r u : Value} {b6 : Nat} (h : RB4 w W s1 s2 s3 x y z r b6 u) (hb : Below W.heap.size W W1) : RB4 w W1 s1 s2 s3 x y z r b6 u :=
 ⟨h.p.below hb, aK_ h.h6 hb, h.hlt⟩
set_option maxHeartbeats 8000000 in
set_option maxRecDepth 100000 in
theorem rof_calls (sy : List S71) (fu pa : List S47) (hPV : PV sy fu pa) (A1 A2 A3 : Option Addr) (c1 c2 c3 : Nat) (w0 : World) (h1 : Kd.C k71 w0 A1 sy.length sy) (h2 : Kd.C k47 w0 A2 fu.length fu) (h3 : Kd.C k47 w0 A3 pa.length pa) (N : Nat) (hN6 : N ≤ 1000000) :
  ∀ (t : S50), tN t ≤ N → ∀ (A : Option Addr) (c : Nat) (w : World), Kd.C k50 w0 A t.f2.length t.f2 → t.f2.length ≤ c → Below w0.heap.size w0 w →
  Calls Tryz.prog 67 #[.agg #[.slice A1 sy.length c1, .slice A2 fu.length c2, .slice A3 pa.length c3], .agg #[.int .i64 t.f0, .int .i64 t.f1, .slice A t.f2.length c]] w (SrtE w0 (ofV sy fu pa t) w) := by
 induction N with
 | zero => intro t h; have := tN_pos t; omega
 | succ N ih =>
  intro t hN A c w hC hc hB
  replace ih := ih (by omega)
  obtain ⟨k, n, l⟩ := t
  rw [tN] at hN
  have IH := mk0 ih
  have HC := mk0 hC
  have HB0 := mk0 hB
  have HLEN := mk0 (show l.length ≤ 1000000 from by have := tLen_le (l := l); omega)
  have HD := mk0 (show tNL l ≤ N by omega)
  have HPV := mk0 hPV
  have H1 := mk0 h1
  have H2 := mk0 h2
  have H3 := mk0 h3
  have HP := mk0 (RB3.start w (.slice A1 sy.length c1) (.slice A2 fu.length c2) (.slice A3 pa.length c3) (.int .i64 k) (.int .i64 n) (.slice A l.length c) (.slice none 0 0))
  have HO := mk0 (show ofV sy fu pa ⟨k, n, l⟩ = match headV sy fu pa k n with | none => none | some s => if s.length < l.length then none else if argsV sy fu pa l s then some (s.drop l.length) else none from by rw [ofV] <;> rfl)
  show Calls Tryz.prog 67 #[.agg #[.slice A1 sy.length c1, .slice A2 fu.length c2, .slice A3 pa.length c3], .agg #[.int .i64 k, .int .i64 n, .slice A l.length c]] w (SrtE w0 (ofV sy fu pa ⟨k, n, l⟩) w)
  clear hC hc hB hN ih hPV h1 h2 h3 hN6
  generalize ofV sy fu pa ⟨k, n, l⟩ = V at *
  go_enter Tryz.func67, Tryz.ntmps67
  go_upto_region 1 with (fail)
  generalize ((w.alloc (.cells #[.slice A1 sy.length c1, .slice A2 fu.length c2, .slice A3 pa.length c3] 109)).alloc (.cells #[.int .i64 k, .int .i64 n, .slice A l.length c] 50)).alloc (.cells #[.slice none 0 0] 47) = W1 at *
  obtain ⟨⟨p0, p1, p2⟩, ⟨q0, q1, q2⟩, r0, r1⟩ := (HP.out).cells
  go_wp2_with fail
  have HBB := mk0 (aM_ HB0.out (HB0.out).size (HP.out).hb)
  have HW1 := mk0 (blk_lt (HP.out).h2)
  refine (rhead_calls sy fu pa ⟨k, n, l⟩ A1 A2 A3 A c1 c2 c3 c w0 W1 H1.out H2.out H3.out HBB.out (HPV.out).1).mono ?_
  rintro E w2 ⟨hb, ⟨hv, rfl⟩ | ⟨s, As, cs, hv, rfl, hl, hCs⟩⟩
  ·rw [hv] at HO
   have HP2 := mk0 ((HP.out).below hb)
   clear hb hv p0 p1 p2 q0 q1 q2 r0 r1 HBB
   go_upto_region 2 with (fail)
   have HP3 := mk0 ((HP2.out).below (aA_ (Below.refl _ _) (.cells #[.slice none 0 0] 47)))
   generalize w2.alloc (.cells #[.slice none 0 0] 47) = w3 at *
   obtain ⟨_, _, r0, r1⟩ := (HP3.out).cells
   have HP4 := mk0 ((HP3.out).set (.slice none 0 0))
   go_wp2
   refine bodyPost_ret (aQ_ rfl _ _ (w.heap.size + 2) 47 #[.slice none 0 0] (0, 0) _ rfl (HP4.out).h2 Tryz.underlying47 rfl (by kernel_rfl)) rfl ?_
   exact ⟨(HP4.out).hb, .inl ⟨HO.out, rfl⟩⟩
  ·rw [hv] at HO
   have HP2 := mk0 ((HP.out).below hb)
   have HCs := mk0 hCs
   have HLs := mk0 hl
   have HSN := mk0 (show s.length ≤ 60 from by have := headV_N HPV.out hv; have := sLen_le (l := s); omega)
   clear hb hv p0 p1 p2 q0 q1 q2 r0 r1 HBB hCs hl
   go_upto_region 2 with (fail)
   have HP3 := mk0 (RB4.mk ((HP2.out).below (aA_ (Below.refl _ _) (.cells #[.slice As s.length cs] 47))) (aU_ w2 (.cells #[.slice As s.length cs] 47)) (blk_lt (HP2.out).h2))
   have HCs3 := mk0 (HCs.out.below (aA_ (Below.refl w2.heap.size w2) (.cells #[.slice As s.length cs] 47)))
   clear HP2 HCs
   generalize w2.alloc (.cells #[.slice As s.length cs] 47) = w3 at *
   generalize w2.heap.size = b6 at *
   obtain ⟨⟨p0, p1, p2⟩, ⟨q0, q1, q2⟩, r0, r1⟩ := (HP3.out).p.cells
   have u0 : w3.cell? ⟨b6, 0, none⟩ = some (.slice As s.length cs) := (aC_ (HP3.out).h6 0).trans rfl
   by_cases hlen : s.length < l.length
   ·rw [if_pos hlen] at HO
    have hlz : (l.length : Int) > (s.length : Int) := by omega
    have HP4 := mk0 ((HP3.out).p.set (.slice none 0 0))
    clear hlen
    go_wp2
    refine bodyPost_ret (aQ_ rfl _ _ (w.heap.size + 2) 47 #[.slice none 0 0] (0, 0) _ rfl (HP4.out).h2 Tryz.underlying47 rfl (by kernel_rfl)) rfl ?_
    exact ⟨(HP4.out).hb, .inl ⟨HO.out, rfl⟩⟩
   rw [if_neg hlen] at HO
   have hlz : ¬ ((l.length : Int) > (s.length : Int)) := by omega
   have HLL := mk0 (show l.length ≤ s.length by omega)
   clear hlen
   go_wp2
   clear hlz p0 p1 p2 q0 q1 q2 r0 r1 u0
   go_loopg [33] l.length (fun gg v33 wi => ∃ (j : Nat), j ≤ l.length ∧ l.length - j ≤ gg ∧ v33 = .int .i64 j ∧ Aside0 (RB4 w wi (.slice A1 sy.length c1) (.slice A2 fu.length c2) (.slice A3 pa.length c3) (.int .i64 k) (.int .i64 n) (.slice A l.length c) (.slice none 0 0) b6 (.slice As s.length cs)) ∧ Aside0 (SX w0 W1 wi As s) ∧ Aside0 (∀ (i : Nat) (h : i < l.length), i < j → argOk sy fu pa l[i] (rd_T47 s (i : Int)) = true))
   case atStart => exact ⟨0, by omega, by omega, rfl, HP3, HCs3, ⟨fun i _ h => absurd h (Nat.not_lt_zero _)⟩⟩
   case round =>
    clear HP3 HCs3
    obtain ⟨j, hj, hgg, rfl, HP3, HCs3, HOK⟩ := hrel
    by_cases hlt : j < l.length
    ·have hltz : (j : Int) < (l.length : Int) := by omega
     have HBr := mk0 (aM_ HB0.out (HB0.out).size (HP3.out).p.hb)
     obtain ⟨ad, Aa, ca, e, hx0, hx1, hx2, hla, hCa⟩ := at_T50 HC.out (j : Int) (by omega) hltz
     subst e
     rw [rdT_at hlt] at hx0 hx1 hx2 hla hCa
     rw [l14_] at hx0 hx1 hx2
     replace hx0 := ((HBr.out).cell (l1_ w0 _ hx0)).trans hx0
     replace hx1 := ((HBr.out).cell (l1_ w0 _ hx1)).trans hx1
     replace hx2 := ((HBr.out).cell (l1_ w0 _ hx2)).trans hx2
     have HJ := mk0 (show tN l[j] ≤ N from by have := tN_mem (l11_ hlt); have := HD.out; omega)
     have HBAD := mk0 (fun h => argsV_false (sy := sy) (fu := fu) (pa := pa) (l := l) (s := s) hlt h)
     have HGOOD := mk0 (show argOk sy fu pa l[j] (rd_T47 s (j : Int)) = true → ∀ (i : Nat) (h : i < l.length), i < j + 1 → argOk sy fu pa l[i] (rd_T47 s (i : Int)) = true from fun h i hi hij => by
      by_cases e : i = j
      ·subst e; exact h
      ·exact HOK.out i hi (by omega))
     generalize l[j] = a at *
     have HCa := mk0 hCa
     have HLa := mk0 hla
     clear hCa hla
     go_upto_region 7 with (fail)
     have HX5 := mk0 (aU_ wr (.cells #[.int .i64 a.f0, .int .i64 a.f1, .slice Aa a.f2.length ca] 50))
     have HP5 := mk0 ((HP3.out).below (aA_ (Below.refl _ _) (.cells #[.int .i64 a.f0, .int .i64 a.f1, .slice Aa a.f2.length ca] 50)))
     have HCs5 := mk0 (HCs3.out.below (aA_ (Below.refl wr.heap.size wr) (.cells #[.int .i64 a.f0, .int .i64 a.f1, .slice Aa a.f2.length ca] 50)))
     clear HBr hx0 hx1 hx2 HP3 HCs3
     generalize (wr.alloc (.cells #[.int .i64 a.f0, .int .i64 a.f1, .slice Aa a.f2.length ca] 50)) = w5 at *
     generalize wr.heap.size = b9 at *
     have HBr5 := mk0 (aM_ HB0.out (HB0.out).size (HP5.out).p.hb)
     obtain ⟨⟨p0, p1, p2⟩, ⟨q0, q1, q2⟩, r0, r1⟩ := (HP5.out).p.cells
     have m0 : w5.cell? ⟨b9, 0, none⟩ = some (.int .i64 a.f0) := (aC_ HX5.out 0).trans rfl
     have m1 : w5.cell? ⟨b9, 1, none⟩ = some (.int .i64 a.f1) := (aC_ HX5.out 1).trans rfl
     have m2 : w5.cell? ⟨b9, 2, none⟩ = some (.slice Aa a.f2.length ca) := (aC_ HX5.out 2).trans rfl
     go_wp2_with fail
     refine (IH.out a HJ.out Aa ca w5 HCa.out HLa.out HBr5.out).mono ?_
     rintro E w6 ⟨hb, ⟨hv, rfl⟩ | ⟨x, Ax, cx, hv, rfl, hlx, hCx⟩⟩
     ·have HF := mk0 (HBAD.out (by unfold argOk; rw [hv]))
      have HP6 := mk0 ((HP5.out).below hb)
      clear hb hv p0 p1 p2 q0 q1 q2 r0 r1 m0 m1 m2 HBr5 HP5
      go_upto_region 8 with (fail)
      have HP7 := mk0 ((HP6.out).below (aA_ (Below.refl _ _) (.cells #[.slice none 0 0] 47)))
      generalize w6.alloc (.cells #[.slice none 0 0] 47) = w7 at *
      obtain ⟨_, _, r0, r1⟩ := (HP7.out).p.cells
      have HP8 := mk0 ((HP7.out).p.set (.slice none 0 0))
      have HP9 := mk0 (fun n => (HP8.out).below (aB_ (Below.refl _ _) n))
      go_quiet (fail)
      go_wp2
      refine bodyPost_ret (aQ_ rfl _ _ (w.heap.size + 2) 47 #[.slice none 0 0] (0, 0) _ rfl (HP9.out _).h2 Tryz.underlying47 rfl (by kernel_rfl)) rfl ?_
      exact ⟨(HP9.out _).hb, .inl ⟨by rw [HO.out, HF.out]; rfl, rfl⟩⟩
     ·have HP6 := mk0 ((HP5.out).below hb)
      have HCs6 := mk0 (HCs5.out.below hb)
      have HCx := mk0 hCx
      have HLx := mk0 hlx
      have HXN := mk0 (ofV_N HPV.out hv)
      have HAO := mk0 (show argOk sy fu pa a (rd_T47 s (j : Int)) = sE ⟨x⟩ (rd_T47 s (j : Int)) from by unfold argOk; rw [hv] <;> rfl)
      clear hb hv p0 p1 p2 q0 q1 q2 r0 r1 m0 m1 m2 HBr5 HP5 HCs5 hCx hlx
      go_upto_region 8 with (fail)
      have HX7 := mk0 (aU_ w6 (.cells #[.slice Ax x.length cx] 47))
      have HP7 := mk0 ((HP6.out).below (aA_ (Below.refl _ _) (.cells #[.slice Ax x.length cx] 47)))
      have HCs7 := mk0 (HCs6.out.below (aA_ (Below.refl w6.heap.size w6) (.cells #[.slice Ax x.length cx] 47)))
      have HCx7 := mk0 ((HCx.out.below (aA_ (Below.refl w6.heap.size w6) (.cells #[.slice Ax x.length cx] 47))).C (aM_ HB0.out (HB0.out).size (HP7.out).p.hb))
      clear HP6 HCs6 HCx
      generalize w6.alloc (.cells #[.slice Ax x.length cx] 47) = w7 at *
      generalize w6.heap.size = b10 at *
      have hjs : (j : Int) < (s.length : Int) := by have := HLL.out; omega
      obtain ⟨ads, A0, c0, e, hy0, hly, hCy⟩ := at_T47 (HCs7.out.C (aM_ HB0.out (HB0.out).size (HP7.out).p.hb)) (j : Int) (by omega) hjs
      subst e
      rw [l14_] at hy0
      have HS := mk0 (fun W (hW : Below w7.heap.size w7 W) => requal_calls ⟨x⟩ (rd_T47 s (j : Int)) Ax cx A0 c0 W (Kd.C_below HCx7.out hW) HLx.out (Kd.C_below hCy hW) hly (by have := HXN.out; omega))
      generalize rd_T47 s (j : Int) = y at *
      have m0 : w7.cell? ⟨b10, 0, none⟩ = some (.slice Ax x.length cx) := (aC_ HX7.out 0).trans rfl
      have u0 : w7.cell? ⟨b6, 0, none⟩ = some (.slice (some ads) s.length cs) := (aC_ (HP7.out).h6 0).trans rfl
      have HK := mk0 (fun (W : World) (hW : Below w7.heap.size w7 W) => And.intro (aP_ hW m0) (And.intro (aP_ hW u0) (aP_ hW hy0)))
      have hd := below_drew (Below.refl w7.heap.size w7)
      clear hCy hly m0 u0 hy0
      go_region_held3 (fun w' => w'.cell? ⟨b10, 0, none⟩ = some (.slice Ax x.length cx) ∧ w'.cell? ⟨b6, 0, none⟩ = some (.slice (some ads) s.length cs) ∧ w'.cell? (ads.add j) = some (.slice A0 y.f0.length c0))
       (first | exact HK.out _ hd | exact HK.out _ hb8 | fail)
       (first | ((with_reducible refine (HS.out _ hd).mono ?_); rintro E w8 ⟨rfl, hb⟩; have hb8 := aM_ hd hd.size hb; clear hb) | fail)
      have hb := hb8
      clear hd hb8
      have HP8 := mk0 ((HP7.out).below hb)
      have HCs8 := mk0 (HCs7.out.below hb)
      clear hb HP7 HCs7 HK HS
      cases q : sE ⟨x⟩ y with
      | false =>
       have HF := mk0 (HBAD.out (by rw [HAO.out, q]))
       clear q
       obtain ⟨_, _, r0, r1⟩ := (HP8.out).p.cells
       have HP9 := mk0 ((HP8.out).p.set (.slice none 0 0))
       go_wp2
       refine bodyPost_ret (aQ_ rfl _ _ (w.heap.size + 2) 47 #[.slice none 0 0] (0, 0) _ rfl (HP9.out).h2 Tryz.underlying47 rfl (by kernel_rfl)) rfl ?_
       exact ⟨(HP9.out).hb, .inl ⟨by rw [HO.out, HF.out]; rfl, rfl⟩⟩
      | true =>
       have HG := mk0 (HGOOD.out (by rw [HAO.out, q]))
       clear q
       go_wp2
       go_roundg (l.length - (j + 1))
       case measure => omega
       case rel => exact ⟨j + 1, by omega, by omega, by rw [wrap_succ (by omega) (by have := HLEN.out; omega)]; rfl, HP8, HCs8, HG⟩
    ·have hltz : ¬ (j : Int) < (l.length : Int) := by omega
     have hje : j = l.length := by omega
     subst hje
     have HT := mk0 (argsV_true (sy := sy) (fu := fu) (pa := pa) (l := l) (s := s) (fun i hi => HOK.out i hi hi))
     obtain ⟨⟨p0, p1, p2⟩, ⟨q0, q1, q2⟩, r0, r1⟩ := (HP3.out).p.cells
     have u0 : wr.cell? ⟨b6, 0, none⟩ = some (.slice As s.length cs) := (aC_ (HP3.out).h6 0).trans rfl
     have hls : l.length ≤ s.length := HLL.out
     have hsc : s.length ≤ cs := HLs.out
     have HD1 := mk0 ((HCs3.out).drop hls hsc)
     have HP4 := mk0 (fun u => (HP3.out).p.set u)
     have HV := mk0 (show V = some (s.drop l.length) by rw [HO.out, HT.out]; rfl)
     have HSL := mk0 (show (s.drop l.length).length = s.length - l.length from l9_)
     go_wp2
     ·subst h
      refine bodyPost_ret (aQ_ rfl _ _ (w.heap.size + 2) 47 #[.slice As (s.length - l.length) 0] (0, 0) _ rfl (HP4.out _).h2 Tryz.underlying47 rfl (by kernel_rfl)) rfl ?_
      refine ⟨(HP4.out _).hb, .inr ⟨s.drop l.length, As, 0, HV.out, by rw [HSL.out]; rfl, by have := HLs.out; rw [HSL.out]; omega, ?_⟩⟩
      have h1 := HD1.out
      rw [if_pos rfl] at h1
      exact ((h1.far (p := ⟨w.heap.size + 2, 0, none⟩) HW1.out _).lower (by have := HW1.out; omega))
     ·refine bodyPost_ret (aQ_ rfl _ _ (w.heap.size + 2) 47 #[.slice (As.map (·.add l.length)) (s.length - l.length) (cs - l.length)] (0, 0) _ rfl (HP4.out _).h2 Tryz.underlying47 rfl (by kernel_rfl)) rfl ?_
      refine ⟨(HP4.out _).hb, .inr ⟨s.drop l.length, As.map (·.add l.length), cs - l.length, HV.out, by rw [HSL.out]; rfl, by have := HLs.out; rw [HSL.out]; omega, ?_⟩⟩
      have h1 := HD1.out
      rw [if_neg h] at h1
      exact ((h1.far (p := ⟨w.heap.size + 2, 0, none⟩) HW1.out _).lower (by have := HW1.out; omega))
structure RPB (w W : World) (s1 s2 x y z u v : Value) : Prop where
 hb : Below w.heap.size w W
 h0 : W.heap[w.heap.size]? = some (.cells #[s1, s2] 25 (0, 0))
 h1 : W.heap[w.heap.size + 1]? = some (.cells #[x, y, z] 109 (0, 0))
 h2 : W.heap[w.heap.size + 2]? = some (.cells #[s1, u, v] 109 (0, 0))
theorem RPB.start (w : World) (s1 s2 x y z u v : Value) : RPB w (((w.alloc (.cells #[s1, s2] 25)).alloc (.cells #[x, y, z] 109)).alloc (.cells #[s1, u, v] 109)) s1 s2 x y z u v :=
 ⟨aA_ (aA_ (aA_ (Below.refl _ _) _) _) _, aD_ (aD_ (aU_ w _) _) _, aD_ (blk_at2 w _ _) _, blk_at3 w _ _ _⟩
theorem RPB.below {w W W1 : World} {s1 s2 x y z u v : Value} (h : RPB w W s1 s2 x y z u v) (hb : Below W.heap.size W W1) : RPB w W1 s1 s2 x y z u v :=
 ⟨aM_ h.hb h.hb.size hb, aK_ h.h0 hb, aK_ h.h1 hb, aK_ h.h2 hb⟩
theorem RPB.grown {w W W1 : World} {s1 s2 x y z u v : Value} (h : RPB w W s1 s2 x y z u v) {row : Option Nat} (hb : Below w.heap.size w W1) (hg : W.grownBy W1 row) (hne : ∀ k, row = some k → w.heap.size + 3 ≤ k) : RPB w W1 s1 s2 x y z u v :=
 ⟨hb, blk_grown h.h0 hg (fun e => by have := hne _ e.symm; omega), blk_grown h.h1 hg (fun e => by have := hne _ e.symm; omega), blk_grown h.h2 hg (fun e => by have := hne _ e.symm; omega)⟩
theorem RPB.setu {w W : World} {s1 s2 x y z u v : Value} (h : RPB w W s1 s2 x y z u v) (n : Value) : RPB w (W.setCell ⟨w.heap.size + 2, 1, none⟩ n) s1 s2 x y z n v :=
 ⟨h.hb.setCell (p := ⟨w.heap.size + 2, 1, none⟩) (by show w.heap.size ≤ w.heap.size + 2; omega) _, aT_ h.h0 (by show w.heap.size ≠ w.heap.size + 2; omega) _, aT_ h.h1 (by show w.heap.size + 1 ≠ w.heap.size + 2; omega) _, blk_set h.h2 1 n⟩
theorem RPB.out {w W : World} {s1 s2 x y z u v : Value} (h : RPB w W s1 s2 x y z u v) (a b c : Value) : (((W.setCell ⟨w.heap.size + 1, 0, none⟩ a).setCell ⟨w.heap.size + 1, 1, none⟩ b).setCell ⟨w.heap.size + 1, 2, none⟩ c).heap[w.heap.size + 1]? = some (.cells #[a, b, c] 109 (0, 0)) ∧ Below w.heap.size w (((W.setCell ⟨w.heap.size + 1, 0, none⟩ a).setCell ⟨w.heap.size + 1, 1, none⟩ b).setCell ⟨w.heap.size + 1, 2, none⟩ c) :=
 ⟨blk_set (blk_set (blk_set h.h1 0 a) 1 b) 2 c, ((h.hb.setCell (p := ⟨w.heap.size + 1, 0, none⟩) (Nat.le_succ _) _).setCell (p := ⟨w.heap.size + 1, 1, none⟩) (Nat.le_succ _) _).setCell (p := ⟨w.heap.size + 1, 2, none⟩) (Nat.le_succ _) _⟩
theorem RPB.cells {w W : World} {s1 s2 x y z u v : Value} (h : RPB w W s1 s2 x y z u v) : (W.cell? ⟨w.heap.size, 0, none⟩ = some s1 ∧ W.cell? ⟨w.heap.size, 1, none⟩ = some s2) ∧ (W.cell? ⟨w.heap.size + 2, 0, none⟩ = some s1 ∧ W.cell? ⟨w.heap.size + 2, 1, none⟩ = some u ∧ W.cell? ⟨w.heap.size + 2, 2, none⟩ = some v) ∧ W.frozen? ⟨w.heap.size + 2, 1, none⟩ = false :=
 ⟨⟨(aC_ h.h0 0).trans rfl, (aC_ h.h0 1).trans rfl⟩, ⟨(aC_ h.h2 0).trans rfl, (aC_ h.h2 1).trans rfl, (aC_ h.h2 2).trans rfl⟩, aJ_ h.h2 1⟩
theorem RPB.outs {w W : World} {s1 s2 x y z u v : Value} (h : RPB w W s1 s2 x y z u v) : (W.cell? ⟨w.heap.size + 1, 0, none⟩ = some x ∧ W.cell? ⟨w.heap.size + 1, 1, none⟩ = some y ∧ W.cell? ⟨w.heap.size + 1, 2, none⟩ = some z) ∧ W.frozen? ⟨w.heap.size + 1, 0, none⟩ = false ∧ W.frozen? ⟨w.heap.size + 1, 1, none⟩ = false ∧ W.frozen? ⟨w.heap.size + 1, 2, none⟩ = false :=
 ⟨⟨(aC_ h.h1 0).trans rfl, (aC_ h.h1 1).trans rfl, (aC_ h.h1 2).trans rfl⟩, aJ_ h.h1 0, aJ_ h.h1 1, aJ_ h.h1 2⟩
set_option maxHeartbeats 8000000 in
set_option maxRecDepth 100000 in
theorem rplace_calls (sy : List S71) (fs : List S52) (A1 A2 : Option Addr) (m c1 c2 : Nat) (w : World) (hF : Kd.C k52 w A2 fs.length fs) (hn : fs.length ≤ 100000) (hm : m < fs.length) :
  Calls Tryz.prog 68 #[.agg #[.slice A1 sy.length c1, .slice A2 fs.length c2], .int .i64 (m : Int)] w fun E w' => ∃ A3 c3, fs[m].f1.f0.length ≤ c3 ∧ Kd.C k47 w' A3 fs[m].f1.f0.length fs[m].f1.f0 ∧ PlaceE (.slice A1 sy.length c1) (.slice A3 fs[m].f1.f0.length c3) fs w E w' := by
 have HF := mk0 hF
 have HN := mk0 hn
 obtain ⟨ad, A3, c3, At, ct, e, hx0, hx1, hx2, hx3, hx4, hls, hCs, hlt4, hCt⟩ := at_T52 hF (m : Int) (by omega) (by omega)
 subst e
 rw [rdF_at hm] at hx0 hx1 hx2 hx3 hx4 hls hCs hlt4 hCt
 rw [l14_] at hx1
 have HLs := mk0 hls
 have HCs := mk0 hCs
 have hmz : (m : Int) < (fs.length : Int) := by omega
 clear hF hn hx0 hx2 hx3 hx4 hls hCs hlt4 hCt
 generalize fs[m].f1.f0 = sp at *
 have HB0 := mk0 (aA_ (aA_ (Below.refl w.heap.size w) (.cells #[.slice A1 sy.length c1, .slice (some ad) fs.length c2] 25)) (.cells #[.slice none 0 0, .slice none 0 0, .slice none 0 0] 109))
 have HX0 := mk0 (aD_ (aU_ w (.cells #[.slice A1 sy.length c1, .slice (some ad) fs.length c2] 25)) (.cells #[.slice none 0 0, .slice none 0 0, .slice none 0 0] 109))
 have HX1 := mk0 (blk_at2 w (.cells #[.slice A1 sy.length c1, .slice (some ad) fs.length c2] 25) (.cells #[.slice none 0 0, .slice none 0 0, .slice none 0 0] 109))
 have HSZ0 := mk0 (show ((w.alloc (.cells #[.slice A1 sy.length c1, .slice (some ad) fs.length c2] 25)).alloc (.cells #[.slice none 0 0, .slice none 0 0, .slice none 0 0] 109)).heap.size = w.heap.size + 2 from by simp)
 go_enter Tryz.func68, Tryz.ntmps68
 go_upto_region 1 with (fail)
 generalize ((w.alloc (.cells #[.slice A1 sy.length c1, .slice (some ad) fs.length c2] 25)).alloc (.cells #[.slice none 0 0, .slice none 0 0, .slice none 0 0] 109)) = W0 at *
 have HK := mk0 (fun (W : World) (hW : Below W0.heap.size W0 W) => (show (W.cell? ⟨w.heap.size, 0, none⟩ = some (.slice A1 sy.length c1) ∧ W.cell? ⟨w.heap.size, 1, none⟩ = some (.slice (some ad) fs.length c2)) ∧ W.cell? ⟨(ad.add (m * 5)).block, (ad.add (m * 5)).off + 1, none⟩ = some (.slice A3 sp.length c3) from
  ⟨⟨(aC_ (aK_ HX0.out hW) 0).trans rfl, (aC_ (aK_ HX0.out hW) 1).trans rfl⟩, ((aM_ HB0.out (HB0.out).size hW).cell (l1_ w _ hx1)).trans hx1⟩))
 have hd := below_drew (Below.refl W0.heap.size W0)
 clear hx1
 go_region_held3 (fun w' => (w'.cell? ⟨w.heap.size, 0, none⟩ = some (.slice A1 sy.length c1) ∧ w'.cell? ⟨w.heap.size, 1, none⟩ = some (.slice (some ad) fs.length c2)) ∧ w'.cell? ⟨(ad.add (m * 5)).block, (ad.add (m * 5)).off + 1, none⟩ = some (.slice A3 sp.length c3))
  (first | exact HK.out _ hd | exact HK.out _ (below_drew (aA_ (Below.refl W0.heap.size W0) _)) | exact HK.out _ (aA_ hd _) | fail)
  (first | fail)
 have HP := mk0 (RPB.mk (aM_ HB0.out (HB0.out).size (below_drew (aA_ (Below.refl W0.heap.size W0) (.cells #[.slice A1 sy.length c1, .slice none 0 0, .slice A3 sp.length c3] 109)))) (aH_ (aD_ HX0.out (.cells #[.slice A1 sy.length c1, .slice none 0 0, .slice A3 sp.length c3] 109))) (aH_ (aD_ HX1.out (.cells #[.slice A1 sy.length c1, .slice none 0 0, .slice A3 sp.length c3] 109))) (by rw [← HSZ0.out]; exact aH_ (aU_ W0 (.cells #[.slice A1 sy.length c1, .slice none 0 0, .slice A3 sp.length c3] 109))))
 rw [HSZ0.out]
 clear HB0 HX0 HX1 HK hd HSZ0
 generalize ((W0.alloc (.cells #[.slice A1 sy.length c1, .slice none 0 0, .slice A3 sp.length c3] 109)).drew) = W1 at *
 obtain ⟨⟨p0, p1⟩, ⟨q0, q1, q2⟩, f1⟩ := (HP.out).cells
 go_wp2
 clear p0 p1 q0 q1 q2 f1
 go_loopg [21] fs.length (fun gg v21 wi => ∃ (j : Nat) (A : Option Addr) (c : Nat) (hs : List Hd), j ≤ fs.length ∧ fs.length - j ≤ gg ∧ v21 = .int .i64 j ∧ Aside0 (RPB w wi (.slice A1 sy.length c1) (.slice (some ad) fs.length c2) (.slice none 0 0) (.slice none 0 0) (.slice none 0 0) (.slice A hs.length c) (.slice A3 sp.length c3)) ∧ Aside0 (Kd.R kH 47 wi w.heap.size (fun k => w.heap.size + 3 ≤ k) (.slice A hs.length c) hs) ∧ Aside0 (RelS w hs ((fs.take j).map (·.f1))))
 case atStart => exact ⟨0, none, 0, [], by omega, by omega, rfl, HP, ⟨Kd.R_nil _ _ _ _ _⟩, ⟨RelS.nil w⟩⟩
 case round =>
  clear HP
  obtain ⟨j, A, c, hs, hj, hgg, rfl, HP, HR, HRS⟩ := hrel
  have HHL := mk0 (show hs.length = j by rw [(HRS.out).1, List.length_map, List.length_take]; omega)
  by_cases hlt : j < fs.length
  ·have hltz : (j : Int) < (fs.length : Int) := by omega
   obtain ⟨ad', As, cs, At, ct, e, hx0, hx1, hx2, hx3, hx4, hls, hCs, hlt4, hCt⟩ := at_T52 HF.out (j : Int) (by omega) hltz
   obtain rfl := l13_ e
   rw [rdF_at hlt] at hx0 hx1 hx2 hx3 hx4 hls hCs hlt4 hCt
   rw [l14_] at hx0 hx1 hx2 hx3 hx4
   replace hx0 := ((HP.out).hb.cell (l1_ w _ hx0)).trans hx0
   replace hx1 := ((HP.out).hb.cell (l1_ w _ hx1)).trans hx1
   replace hx2 := ((HP.out).hb.cell (l1_ w _ hx2)).trans hx2
   replace hx3 := ((HP.out).hb.cell (l1_ w _ hx3)).trans hx3
   replace hx4 := ((HP.out).hb.cell (l1_ w _ hx4)).trans hx4
   have HRS2 := mk0 (show RelS w (hs ++ [(As, fs[j].f1.f0.length, cs)]) ((fs.take (j + 1)).map (·.f1)) from by
    rw [takeS hlt, List.map_append]
    exact RelS.snoc HRS.out hls hCs)
   clear hls hCs hlt4 hCt
   generalize fs[j] = f at *
   go_upto_region 5 with (fail)
   have HX5 := mk0 (aU_ wr (.cells #[.string f.f0, .slice As f.f1.f0.length cs, .int .i64 f.f2.f0, .int .i64 f.f2.f1, .slice At f.f2.f2.length ct] 52))
   have HP5 := mk0 ((HP.out).below (aA_ (Below.refl _ _) (.cells #[.string f.f0, .slice As f.f1.f0.length cs, .int .i64 f.f2.f0, .int .i64 f.f2.f1, .slice At f.f2.f2.length ct] 52)))
   have HR5 := mk0 (Kd.R_below HR.out (aA_ (Below.refl wr.heap.size wr) (.cells #[.string f.f0, .slice As f.f1.f0.length cs, .int .i64 f.f2.f0, .int .i64 f.f2.f1, .slice At f.f2.f2.length ct] 52)))
   have HSZ := mk0 (show w.heap.size + 3 ≤ wr.heap.size from by have := blk_lt (HP.out).h2; omega)
   clear hx0 hx1 hx2 hx3 hx4 HP HR
   generalize (wr.alloc (.cells #[.string f.f0, .slice As f.f1.f0.length cs, .int .i64 f.f2.f0, .int .i64 f.f2.f1, .slice At f.f2.f2.length ct] 52)) = w5 at *
   have HSZ5 := mk0 (show w.heap.size + 3 ≤ w5.heap.size from by have := blk_lt (HP5.out).h2; have := blk_lt HX5.out; have := HSZ.out; omega)
   generalize wr.heap.size = b7 at *
   obtain ⟨⟨p0, p1⟩, ⟨q0, q1, q2⟩, f1⟩ := (HP5.out).cells
   have m1 : w5.cell? ⟨b7, 1, none⟩ = some (.slice As f.f1.f0.length cs) := (aC_ HX5.out 1).trans rfl
   generalize f.f1.f0.length = n at *
   go_wp2_with ((with_reducible refine gate_builtin (b := .append) (xs := #[.tmp 26, .tmp 29]) rfl ?_); at_builtin; refine Kd.R_append kH (w0 := w) w.heap.size rfl (.tmp 26) (.tmp 29) 43 47 (.agg #[.slice none 0 0]) 24 rfl Tryz.underlying43 Q.info47 rfl (show 0 < 1 by decide) (by decide) (.slice A hs.length c) hs (As, n, cs) [.slice As n cs] (fun k => w.heap.size + 3 ≤ k) (fun _ => False) rfl rfl rfl (fun _ hk => hk.elim) (fun k hk => Nat.le_trans (HSZ5.out) hk) HR5.out (HP5.out).hb (HP5.out).hb.size (by have := HHL.out; have := HN.out; omega) ?_; intro v5 w6 ho5 hb5 hg5 hat5; (obtain ⟨A9, c9, rfl⟩ := Kd.R_slice ho5); have HP6 := mk0 ((HP5.out).grown hb5 hg5 (HR5.out).1); have HR6 := mk0 ho5; have f6 := (HP6.out).cells.2.2; have q6 := (HP6.out).cells.2.1.2.1; clear ho5 hb5 hg5 hat5)
   go_roundg (fs.length - (j + 1))
   case measure => omega
   case rel => exact ⟨j + 1, A9, c9, hs ++ [(As, n, cs)], by omega, by omega, by rw [wrap_succ (by omega) (by have := HN.out; omega)]; rfl, ⟨by rw [l7_, l10_]; exact (HP6.out).setu _⟩, ⟨by have h1 := Kd.R_far HR6.out (p := ⟨w.heap.size + 2, 1, none⟩) (fun k hk he => by have h0 : k = w.heap.size + 2 := he; omega) (Value.slice A9 (hs.length + 1) c9); rw [l7_, l10_] at h1; rw [l7_, l10_]; exact h1⟩, HRS2⟩
  ·have hltz : ¬ (j : Int) < (fs.length : Int) := by omega
   have hje : j = fs.length := by omega
   subst hje
   rw [List.take_length] at HRS
   obtain ⟨⟨p0, p1⟩, ⟨q0, q1, q2⟩, f1⟩ := (HP.out).cells
   obtain ⟨⟨o0, o1, o2⟩, g0, g1, g2⟩ := (HP.out).outs
   have HO := mk0 (HP.out.out (.slice A1 sy.length c1) (.slice A hs.length c) (.slice A3 sp.length c3))
   have HR3 := mk0 (Kd.R_far (Kd.R_far (Kd.R_far HR.out (p := ⟨w.heap.size + 1, 0, none⟩) (fun k hk he => by have h0 : k = w.heap.size + 1 := he; omega) (.slice A1 sy.length c1)) (p := ⟨w.heap.size + 1, 1, none⟩) (fun k hk he => by have h0 : k = w.heap.size + 1 := he; omega) (.slice A hs.length c)) (p := ⟨w.heap.size + 1, 2, none⟩) (fun k hk he => by have h0 : k = w.heap.size + 1 := he; omega) (.slice A3 sp.length c3))
   obtain ⟨A9, c9, e9, hl9, hC9⟩ := C_of_heads HR3.out HRS.out (HO.out).2
   injection e9 with e1 e2 e3
   subst e1 e3
   have HC9 := mk0 hC9
   have HL9 := mk0 hl9
   rw [List.length_map] at HL9
   clear e2 hC9 hl9 HR3
   rw [HHL.out] at HO q1
   go_wp2
   refine bodyPost_ret (results_cell_row rfl _ _ (w.heap.size + 1) 109 #[.slice A1 sy.length c1, .slice A fs.length c, .slice A3 sp.length c3] (0, 0) _ rfl (HO.out).1 Tryz.underlying109 rfl (by kernel_rfl)) rfl ?_
   rw [HHL.out] at HC9
   exact ⟨A3, c3, HLs.out, Kd.C_below HCs.out (HO.out).2, (HO.out).2, A, c, rfl, HL9.out, HC9.out⟩
def metB (ns : List ByteArray) (s : ByteArray) : Bool := ns.any fun t => s.toList == t.toList
theorem bytes_eq {a b : ByteArray} : (a.toList == b.toList) = true ↔ a = b := by
 rw [beq_iff_eq, Lib.toList_data, Lib.toList_data]
 constructor
 ·intro h
  rcases a with ⟨⟨a⟩⟩
  rcases b with ⟨⟨b⟩⟩
  exact congrArg (fun l => ByteArray.mk (Array.mk l)) h
 ·rintro rfl; rfl
theorem metB_iff {ns : List ByteArray} {s : ByteArray} : metB ns s = true ↔ s ∈ ns := by
 unfold metB
 rw [List.any_eq_true]
 constructor
 ·rintro ⟨t, ht, h⟩; rw [bytes_eq.1 h]; exact ht
 ·intro h; exact ⟨s, h, bytes_eq.2 rfl⟩
def stepB (l : List S71) (i : Nat) (x : S71) : Bool := symOk x && !metB ((l.take i).map (·.f0)) x.f0
def restB (l : List S71) : Nat → List S71 → Bool
 | _, [] => true
 | i, x :: r => stepB l i x && restB l (i + 1) r
theorem nodup_of_take {α : Type} {l : List α} (h : ∀ (j : Nat) (hj : j < l.length), l[j] ∉ l.take j) : l.Nodup := by
 rw [List.nodup_iff_pairwise_ne, List.pairwise_iff_getElem]
 intro i j hi hj hij e
 refine h j hj ?_
 rw [← e, List.mem_iff_getElem]
 exact ⟨i, by rw [List.length_take]; omega, by rw [List.getElem_take]⟩
theorem restB_iff (l : List S71) : ∀ (r : List S71) (i : Nat), r = l.drop i → i ≤ l.length → (restB l i r = true ↔ ∀ (j : Nat) (hj : j < l.length), i ≤ j → stepB l j l[j] = true)
 | [], i, e, hi => by
  have h0 : l.length ≤ i := List.drop_eq_nil_iff.1 e.symm
  exact ⟨fun _ j hj hij => by omega, fun _ => rfl⟩
 | x :: r, i, e, hi => by
  have hlt : i < l.length := by
   by_cases h : i < l.length
   ·exact h
   ·rw [l15_ (by omega)] at e; cases e
  rw [dropS hlt] at e
  injection e with e1 e2
  rw [restB, l19_, restB_iff l r (i + 1) e2 (by omega)]
  constructor
  ·rintro ⟨h1, h2⟩ j hj hij
   by_cases hh : i = j
   ·subst hh; rw [← e1]; exact h1
   ·exact h2 j hj (by omega)
  ·intro h
   exact ⟨by rw [e1]; exact h i hlt (Nat.le_refl _), fun j hj hij => h j hj (by omega)⟩
theorem symsB_rest {l : List S71} (hl : l.length ≤ 24) : symsB l = restB l 0 l := by
 have h := restB_iff l l 0 rfl (Nat.zero_le _)
 cases e : restB l 0 l with
 | true =>
  have h2 := h.1 e
  have h3 : ∀ x ∈ l, symOk x = true := fun x hx => by
   obtain ⟨j, hj, rfl⟩ := List.mem_iff_getElem.1 hx
   have := h2 j hj (Nat.zero_le _)
   unfold stepB at this
   rw [l19_] at this
   exact this.1
  have h4 : (l.map (·.f0)).Nodup := nodup_of_take fun j hj hm => by
   have hj2 : j < l.length := by simpa using hj
   have := h2 j hj2 (Nat.zero_le _)
   unfold stepB at this
   rw [l19_] at this
   have h5 : metB ((l.take j).map (·.f0)) l[j].f0 = true := metB_iff.2 (by rw [List.map_take]; simpa using hm)
   rw [h5] at this
   exact absurd this.2 (by simp)
  rw [symsB_all h3 h4, l2_ hl]
 | false =>
  cases e2 : symsB l with
  | false => rfl
  | true =>
   have h6 : restB l 0 l = true := h.2 fun j hj _ => by
    unfold stepB
    rw [l19_]
    constructor
    ·cases e3 : symOk l[j] with
     | true => rfl
     | false => rw [symsB_bad (l11_ hj) e3] at e2; cases e2
    ·cases e3 : metB ((l.take j).map (·.f0)) l[j].f0 with
     | false => rfl
     | true => rw [symsB_twice hj (metB_iff.1 e3)] at e2; cases e2
   rw [h6] at e; cases e
theorem rsyms_ev (l : List S71) : Ev (fun k => Q.virgationref02_Symbols.f k l) (symsB l) := by
 by_cases hl : l.length ≤ 24
 case neg =>
  refine Ev.congr (f := fun _ => some false) (fun k => by unfold Q.virgationref02_Symbols.f; rw [if_pos (by omega)]) ?_
  unfold symsB
  rw [l3_ hl, Bool.and_false]
  exact Ev.now false
 rw [symsB_rest hl]
 have inner : ∀ (i : Nat) (x : S71) (y : List S71) (r : Bool), y.length ≤ 24 → Ev (fun k => Q.virgationref02_Symbols.l0 k l l (l.length : Int) (wrap64 ((i : Int) + 1))) r → ∀ d j : Nat, y.length - j = d → j ≤ y.length →
   Ev (fun k => Q.virgationref02_Symbols.l1 k l l (l.length : Int) (i : Int) y (y.length : Int) (j : Int) x.f0 x.f1) (!metB ((y.drop j).map (·.f0)) x.f0 && r) := by
  intro i x y r hy hr d
  induction d with
  | zero =>
   intro j hd hj
   rw [l15_ (by omega)]
   refine ev_next hr fun k => ?_
   simp only [Q.virgationref02_Symbols.l1]
   rw [if_neg (by omega)]
  | succ d ihd =>
   intro j hd hj
   have hlt : j < y.length := by omega
   have e2 := ihd (j + 1) (by omega) (by omega)
   rw [show ((j + 1 : Nat) : Int) = wrap64 ((j : Int) + 1) from (wrap_succ (i := (j : Int)) (by omega) (by omega)).symm] at e2
   rw [dropS hlt, List.map_cons]
   by_cases hh : x.f0.toList = y[j].f0.toList
   ·refine ev_next (f := fun _ => some false) ?_ fun k => ?_
    ·have : metB (y[j].f0 :: (y.drop (j + 1)).map (·.f0)) x.f0 = true := by unfold metB; rw [List.any_cons, beq_iff_eq.2 hh]; rfl
     rw [this]
     exact Ev.now false
    ·simp only [Q.virgationref02_Symbols.l1]
     rw [if_pos (by omega), if_pos (by omega), if_pos (by omega), rdY_at hlt, if_pos hh]
   ·have : metB (y[j].f0 :: (y.drop (j + 1)).map (·.f0)) x.f0 = metB ((y.drop (j + 1)).map (·.f0)) x.f0 := by unfold metB; rw [List.any_cons, beq_eq_false_iff_ne.2 hh, Bool.false_or]
    rw [this]
    refine ev_next e2 fun k => ?_
    simp only [Q.virgationref02_Symbols.l1]
    rw [if_pos (by omega), if_pos (by omega), if_pos (by omega), rdY_at hlt, if_neg hh]
 have outer : ∀ d i : Nat, l.length - i = d → i ≤ l.length → Ev (fun k => Q.virgationref02_Symbols.l0 k l l (l.length : Int) (i : Int)) (restB l i (l.drop i)) := by
  intro d
  induction d with
  | zero =>
   intro i hd hi
   rw [l15_ (by omega)]
   refine ev_end fun k => ?_
   simp only [Q.virgationref02_Symbols.l0]
   rw [if_neg (by omega)]; rfl
  | succ d ihd =>
   intro i hd hi
   have hlt : i < l.length := by omega
   have e2 := ihd (i + 1) (by omega) (by omega)
   rw [show ((i + 1 : Nat) : Int) = wrap64 ((i : Int) + 1) from (wrap_succ (i := (i : Int)) (by omega) (by omega)).symm] at e2
   have e3 := inner i l[i] (l.take i) _ (by rw [List.length_take]; omega) e2 _ 0 rfl (Nat.zero_le _)
   rw [List.drop_zero] at e3
   rw [dropS hlt, restB]
   have hno : ∀ a b c : Int, ∀ s : ByteArray, Ev (fun k => Q.virgationref02_Symbols.j1 k l (i : Int) l a b true s c) false := fun a b c s => ev_end fun k => by simp [Q.virgationref02_Symbols.j1]
   have hj1 : Ev (fun k => Q.virgationref02_Symbols.j1 k l (i : Int) l (l.length : Int) (i : Int) false l[i].f0 l[i].f1) (!metB ((l.take i).map (·.f0)) l[i].f0 && restB l (i + 1) (l.drop (i + 1))) := by
    refine ev_next e3 fun k => ?_
    simp only [Q.virgationref02_Symbols.j1]
    rw [if_neg (by simp), if_pos (by omega), if_pos (by omega)]
    simp only [l21_, l14_]
    rfl
   refine ev_next (Ev.bind (f := fun k t => if t = true then (if l[i].f1 < 0 then Q.virgationref02_Symbols.j1 k l (i : Int) l (l.length : Int) (i : Int) true l[i].f0 l[i].f1 else Q.virgationref02_Symbols.j1 k l (i : Int) l (l.length : Int) (i : Int) (decide (l[i].f1 > 4)) l[i].f0 l[i].f1) else Q.virgationref02_Symbols.j1 k l (i : Int) l (l.length : Int) (i : Int) true l[i].f0 l[i].f1) (rname_ev l[i].f0) ?_) fun k => ?_
   ·unfold stepB symOk
    cases nameB l[i].f0 with
    | false => simpa using hno _ _ _ _
    | true =>
     rw [Bool.true_and]
     by_cases h1 : l[i].f1 < 0
     ·rw [l3_ (show ¬ 0 ≤ l[i].f1 by omega)]
      simp only [if_pos h1, if_true, Bool.false_and]
      exact hno _ _ _ _
     ·rw [l2_ (show 0 ≤ l[i].f1 by omega), Bool.true_and]
      simp only [if_neg h1, if_true]
      by_cases h2 : l[i].f1 > 4
      ·rw [l3_ (show ¬ l[i].f1 ≤ 4 by omega), l2_ h2]
       simp only [Bool.false_and]
       exact hno _ _ _ _
      ·rw [l2_ (show l[i].f1 ≤ 4 by omega), l3_ h2, Bool.true_and]
       exact hj1
   ·simp only [Q.virgationref02_Symbols.l0]
    rw [if_pos (by omega), if_pos (by omega), if_pos (by omega), rdY_at hlt]
 have e := outer l.length 0 (by omega) (Nat.zero_le _)
 rw [List.drop_zero] at e
 exact Ev.congr (fun k => by unfold Q.virgationref02_Symbols.f; rw [if_neg (by omega)]; rfl) e
theorem rsyms_calls (l : List S71) (A : Option Addr) (c : Nat) (w : World) (hC : Kd.C k71 w A l.length l) (hc : l.length ≤ c) :
  Calls Tryz.prog 36 #[.slice A l.length c] w fun E w' => E = .returned (.bool (symsB l)) ∧ Below w.heap.size w w' := by
 obtain ⟨k, hk⟩ := (rsyms_ev l).rounds
 exact Q.virgationref02_Symbols.calls k A c l (symsB l) w hC hc hk
theorem ris_calls (t : S47) (A : Option Addr) (c : Nat) (w : World) (hC : Kd.C k47 w A t.f0.length t.f0) (hc : t.f0.length ≤ c) :
  Calls Tryz.prog 37 #[.agg #[.slice A t.f0.length c]] w fun E w' => E = .returned (.bool (srtB t)) ∧ Below w.heap.size w w' := by
 obtain ⟨k, hk⟩ := (is_ev t).rounds
 exact Q.virgationref01_Is.calls k A c t.f0 (srtB t) w hC hc hk
theorem rnodes_calls (t : S50) (m : Nat) (hm : m ≤ 1000000) (A : Option Addr) (c : Nat) (w : World) (hC : Kd.C k50 w A t.f2.length t.f2) (hc : t.f2.length ≤ c) :
  Calls Tryz.prog 65 #[.agg #[.int .i64 t.f0, .int .i64 t.f1, .slice A t.f2.length c], .int .i64 (m : Int)] w fun E w' => E = .returned (.int .i64 ((min (tN t) (m + 1) : Nat) : Int)) ∧ Below w.heap.size w w' := by
 obtain ⟨k, hk⟩ := (tnodes_ev (tN t) t (Nat.le_refl _) m hm).rounds
 exact Q.virgationref02_Nodes.calls k t.f0 t.f1 A c t.f2 (m : Int) _ w hC hc hk
theorem rdepth_calls (t : S50) (h : tN t ≤ 1000000) (A : Option Addr) (c : Nat) (w : World) (hC : Kd.C k50 w A t.f2.length t.f2) (hc : t.f2.length ≤ c) :
  Calls Tryz.prog 66 #[.agg #[.int .i64 t.f0, .int .i64 t.f1, .slice A t.f2.length c]] w fun E w' => E = .returned (.int .i64 (tD t : Int)) ∧ Below w.heap.size w w' := by
 obtain ⟨k, hk⟩ := (tdepth_ev 1000000 t h (by omega)).rounds
 exact Q.virgationref02_Depth.calls k t.f0 t.f1 A c t.f2 (tD t : Int) w hC hc hk
theorem rofC_calls (sy : List S71) (fu pa : List S47) (hPV : PV sy fu pa) (A1 A2 A3 : Option Addr) (c1 c2 c3 : Nat) (w0 : World) (h1 : Kd.C k71 w0 A1 sy.length sy) (h2 : Kd.C k47 w0 A2 fu.length fu) (h3 : Kd.C k47 w0 A3 pa.length pa)
  (t : S50) (ht : tN t ≤ 1000000) (A : Option Addr) (c : Nat) (w : World) (hC : Kd.C k50 w0 A t.f2.length t.f2) (hc : t.f2.length ≤ c) (hB : Below w0.heap.size w0 w) :
  Calls Tryz.prog 67 #[.agg #[.slice A1 sy.length c1, .slice A2 fu.length c2, .slice A3 pa.length c3], .agg #[.int .i64 t.f0, .int .i64 t.f1, .slice A t.f2.length c]] w (OfC (ofV sy fu pa t) w) :=
 (rof_calls sy fu pa hPV A1 A2 A3 c1 c2 c3 w0 h1 h2 h3 1000000 (by omega) t ht A c w hC hc hB).mono fun E w' hE => ofC_of hE
set_option maxHeartbeats 16000000 in
set_option maxRecDepth 100000 in
theorem risch_calls (sy : List S71) (fs : List S52) (A1 A2 : Option Addr) (c1 c2 : Nat) (w : World) (hS : Kd.C k71 w A1 sy.length sy) (hF : Kd.C k52 w A2 fs.length fs) (hc1 : sy.length ≤ c1) (hc2 : fs.length ≤ c2) :
  Calls Tryz.prog 22 #[.agg #[.slice A1 sy.length c1, .slice A2 fs.length c2]] w fun E w' => E = .returned (.bool (schB sy fs)) ∧ Below w.heap.size w w' := by
 have HS := mk0 hS
 have HF := mk0 hF
 have HC2 := mk0 hc2
 have HP := mk0 (CB.mk (aA_ (Below.refl w.heap.size w) (.cells #[.slice A1 sy.length c1, .slice A2 fs.length c2] 25)) (aU_ w (.cells #[.slice A1 sy.length c1, .slice A2 fs.length c2] 25)))
 have HRS := mk0 (fun (W : World) (hW : Below w.heap.size w W) => rsyms_calls sy A1 c1 W (Kd.C_below hS hW) hc1)
 clear hS hF hc1 hc2
 go_enter Tryz.func22, Tryz.ntmps22
 go_upto_region 1 with (fail)
 generalize w.alloc (.cells #[.slice A1 sy.length c1, .slice A2 fs.length c2] 25) = W1 at *
 obtain ⟨p0, p1⟩ := (HP.out).cells
 go_wp2_with fail
 refine (HRS.out W1 (HP.out).hb).mono ?_
 rintro E w2 ⟨rfl, hb⟩
 have HP2 := mk0 ((HP.out).below hb)
 clear hb p0 p1 HP HRS
 cases q : symsB sy with
 | false =>
  have HV := mk0 (schB_syms (fs := fs) q)
  clear q
  go_wp2
  go_ret
  exact ⟨by rw [HV.out]; rfl, (HP2.out).hb⟩
 | true =>
 have HSY := mk0 q
 clear q
 obtain ⟨p0, p1⟩ := (HP2.out).cells
 by_cases h2 : fs.length = 0
 ·have HV := mk0 (schB_none (sy := sy) h2)
  have h2z : (fs.length : Int) < 1 := by omega
  go_wp2
  go_ret
  exact ⟨by rw [HV.out]; rfl, (HP2.out).hb⟩
 have h2z : ¬ (fs.length : Int) < 1 := by omega
 by_cases h3 : 64 < fs.length
 ·have HV := mk0 (schB_many (sy := sy) h3)
  have h3z : (fs.length : Int) > 64 := by omega
  go_wp2
  go_ret
  exact ⟨by rw [HV.out]; rfl, (HP2.out).hb⟩
 have h3z : ¬ (fs.length : Int) > 64 := by omega
 have HN0 := mk0 (And.intro h2 h3)
 have HSG := mk0 (fun h4 h5 h6 h7 => schB_all HSY.out (HN0.out).1 (HN0.out).2 h4 h5 h6 h7)
 go_wp2
 clear h2 h3 h2z h3z p0 p1
 go_loopg [30] fs.length (fun gg v30 wi => ∃ (j : Nat), j ≤ fs.length ∧ fs.length - j ≤ gg ∧ v30 = .int .i64 j ∧ Aside0 (CB w wi (.slice A1 sy.length c1) (.slice A2 fs.length c2)) ∧ Aside0 (∀ (i : Nat) (h : i < fs.length), i < j → headOk fs[i] = true ∧ tN fs[i].f2 ≤ 400 ∧ tD fs[i].f2 ≤ 30 ∧ fs[i].f0 ∉ (fs.take i).map (·.f0)))
 case atStart => exact ⟨0, by omega, by omega, rfl, HP2, ⟨fun i _ h => absurd h (Nat.not_lt_zero _)⟩⟩
 case round =>
  clear HP2
  obtain ⟨j, hj, hgg, rfl, HP, HOK⟩ := hrel
  by_cases hlt : j < fs.length
  ·have hltz : (j : Int) < (fs.length : Int) := by omega
   obtain ⟨ad, As, cs, At, ct, e, hx0, hx1, hx2, hx3, hx4, hls, hCs, hlt4, hCt⟩ := at_T52 HF.out (j : Int) (by omega) hltz
   subst e
   rw [rdF_at hlt] at hx0 hx1 hx2 hx3 hx4 hls hCs hlt4 hCt
   rw [l14_] at hx0 hx1 hx2 hx3 hx4
   replace hx0 := ((HP.out).hb.cell (l1_ w _ hx0)).trans hx0
   replace hx1 := ((HP.out).hb.cell (l1_ w _ hx1)).trans hx1
   replace hx2 := ((HP.out).hb.cell (l1_ w _ hx2)).trans hx2
   replace hx3 := ((HP.out).hb.cell (l1_ w _ hx3)).trans hx3
   replace hx4 := ((HP.out).hb.cell (l1_ w _ hx4)).trans hx4
   have HHD := mk0 (fun h => schB_head (sy := sy) (l11_ hlt) h)
   have HBD := mk0 (fun h => schB_body (sy := sy) (l11_ hlt) h)
   have HTW := mk0 (fun h => schB_twice (sy := sy) hlt h)
   have HNX := mk0 (show (headOk fs[j] = true ∧ tN fs[j].f2 ≤ 400 ∧ tD fs[j].f2 ≤ 30 ∧ fs[j].f0 ∉ (fs.take j).map (·.f0)) → ∀ (i : Nat) (h : i < fs.length), i < j + 1 → headOk fs[i] = true ∧ tN fs[i].f2 ≤ 400 ∧ tD fs[i].f2 ≤ 30 ∧ fs[i].f0 ∉ (fs.take i).map (·.f0) from fun h i hi hij => by
    by_cases e : i = j
    ·subst e; exact h
    ·exact HOK.out i hi (by omega))
   have HCs := mk0 hCs
   have HLs := mk0 hls
   have HCt := mk0 hCt
   have HLt := mk0 hlt4
   clear hCs hls hlt4 hCt
   generalize fs[j] = f at *
   go_upto_region 6 with (fail)
   have HX5 := mk0 (aU_ wr (.cells #[.string f.f0, .slice As f.f1.f0.length cs, .int .i64 f.f2.f0, .int .i64 f.f2.f1, .slice At f.f2.f2.length ct] 52))
   have HP5 := mk0 ((HP.out).below (aA_ (Below.refl _ _) (.cells #[.string f.f0, .slice As f.f1.f0.length cs, .int .i64 f.f2.f0, .int .i64 f.f2.f1, .slice At f.f2.f2.length ct] 52)))
   clear hx0 hx1 hx2 hx3 hx4 HP
   generalize (wr.alloc (.cells #[.string f.f0, .slice As f.f1.f0.length cs, .int .i64 f.f2.f0, .int .i64 f.f2.f1, .slice At f.f2.f2.length ct] 52)) = w5 at *
   generalize wr.heap.size = b7 at *
   have HK := mk0 (fun (W : World) (h : W.heap[b7]? = some (.cells #[.string f.f0, .slice As f.f1.f0.length cs, .int .i64 f.f2.f0, .int .i64 f.f2.f1, .slice At f.f2.f2.length ct] 52 (0, 0))) => (show W.cell? ⟨b7, 0, none⟩ = some (.string f.f0) ∧ W.cell? ⟨b7, 1, none⟩ = some (.slice As f.f1.f0.length cs) ∧ W.cell? ⟨b7, 2, none⟩ = some (.int .i64 f.f2.f0) ∧ W.cell? ⟨b7, 3, none⟩ = some (.int .i64 f.f2.f1) ∧ W.cell? ⟨b7, 4, none⟩ = some (.slice At f.f2.f2.length ct) from
    ⟨(aC_ h 0).trans rfl, (aC_ h 1).trans rfl, (aC_ h 2).trans rfl, (aC_ h 3).trans rfl, (aC_ h 4).trans rfl⟩))
   obtain ⟨m0, m1, m2, m3, m4⟩ := HK.out w5 HX5.out
   go_wp2_with fail
   refine (rname_calls f.f0 w5).mono ?_
   rintro E w6 ⟨rfl, hb⟩
   have HP6 := mk0 ((HP5.out).below hb)
   have HX6 := mk0 (aK_ HX5.out hb)
   clear hb m0 m1 m2 m3 m4 HP5 HX5
   cases q : nameB f.f0 with
   | false =>
    have HV := mk0 (HHD.out (by unfold headOk; rw [q]; rfl))
    clear q
    go_wp2
    go_ret
    exact ⟨by rw [HV.out]; rfl, (HP6.out).hb⟩
   | true =>
   have HNM := mk0 q
   clear q
   obtain ⟨m0, m1, m2, m3, m4⟩ := HK.out w6 HX6.out
   have HIS := mk0 (ris_calls f.f1 As cs w6 (Kd.C_below HCs.out (HP6.out).hb) HLs.out)
   go_wp2_with fail
   refine (HIS.out).mono ?_
   rintro E w7 ⟨rfl, hb⟩
   have HP7 := mk0 ((HP6.out).below hb)
   have HX7 := mk0 (aK_ HX6.out hb)
   clear hb m0 m1 m2 m3 m4 HP6 HX6 HIS
   cases q : srtB f.f1 with
   | false =>
    have HV := mk0 (HHD.out (by unfold headOk; rw [q]; simp))
    clear q
    go_wp2
    go_ret
    exact ⟨by rw [HV.out]; rfl, (HP7.out).hb⟩
   | true =>
   have HHO := mk0 (show headOk f = true by unfold headOk; rw [HNM.out, q]; rfl)
   clear q
   obtain ⟨m0, m1, m2, m3, m4⟩ := HK.out w7 HX7.out
   have HND := mk0 (rnodes_calls f.f2 400 (by omega) At ct w7 (Kd.C_below HCt.out (HP7.out).hb) HLt.out)
   go_wp2_with fail
   refine (HND.out).mono ?_
   rintro E w8 ⟨rfl, hb⟩
   have HP8 := mk0 ((HP7.out).below hb)
   have HX8 := mk0 (aK_ HX7.out hb)
   clear hb m0 m1 m2 m3 m4 HP7 HX7 HND
   by_cases ht : tN f.f2 ≤ 400
   case neg =>
    have HV := mk0 (HBD.out (by unfold bodyOk; rw [l3_ ht]; rfl))
    have htz : ((min (tN f.f2) (400 + 1) : Nat) : Int) > 400 := by omega
    clear ht
    generalize ((min (tN f.f2) (400 + 1) : Nat) : Int) = z1 at *
    go_wp2
    go_ret
    exact ⟨by rw [HV.out]; rfl, (HP8.out).hb⟩
   have HTN := mk0 ht
   have htz : ¬ ((min (tN f.f2) (400 + 1) : Nat) : Int) > 400 := by omega
   clear ht
   generalize ((min (tN f.f2) (400 + 1) : Nat) : Int) = z1 at *
   obtain ⟨m0, m1, m2, m3, m4⟩ := HK.out w8 HX8.out
   have HDP := mk0 (rdepth_calls f.f2 (by have := HTN.out; omega) At ct w8 (Kd.C_below HCt.out (HP8.out).hb) HLt.out)
   go_wp2_with fail
   refine (HDP.out).mono ?_
   rintro E w9 ⟨rfl, hb⟩
   have HP9 := mk0 ((HP8.out).below hb)
   have HX9 := mk0 (aK_ HX8.out hb)
   clear hb m0 m1 m2 m3 m4 HP8 HX8 HDP
   by_cases hd : tD f.f2 ≤ 30
   case neg =>
    have HV := mk0 (HBD.out (by unfold bodyOk; rw [l3_ hd]; simp))
    have hdz : (tD f.f2 : Int) > 30 := by omega
    clear hd
    generalize (tD f.f2 : Int) = z2 at *
    go_wp2
    go_ret
    exact ⟨by rw [HV.out]; rfl, (HP9.out).hb⟩
   have HTD := mk0 hd
   have hdz : ¬ (tD f.f2 : Int) > 30 := by omega
   clear hd
   generalize (tD f.f2 : Int) = z2 at *
   obtain ⟨p0, p1⟩ := (HP9.out).cells
   have hjc : (j : Int) ≤ (c2 : Int) := by have := HC2.out; omega
   go_wp2
   clear htz hdz p0 p1
   have HTL := mk0 (show (fs.take j).length = j by rw [List.length_take]; omega)
   have HTC := mk0 (Kd.C_take (k := k52) HF.out (show j ≤ fs.length by omega))
   rw [HTL.out] at HTC
   go_loopg [62] j (fun gg v62 wi => ∃ (i2 : Nat), i2 ≤ j ∧ j - i2 ≤ gg ∧ v62 = .int .i64 i2 ∧ Aside0 (CB w wi (.slice A1 sy.length c1) (.slice (some ad) fs.length c2)) ∧ Aside0 (wi.heap[b7]? = some (.cells #[.string f.f0, .slice As f.f1.f0.length cs, .int .i64 f.f2.f0, .int .i64 f.f2.f1, .slice At f.f2.f2.length ct] 52 (0, 0))) ∧ Aside0 (∀ (q : Nat) (h : q < fs.length), q < i2 → fs[q].f0 ≠ f.f0))
   case atStart => exact ⟨0, by omega, by omega, rfl, HP9, HX9, ⟨fun i _ h => absurd h (Nat.not_lt_zero _)⟩⟩
   case round =>
    clear HP9 HX9
    obtain ⟨i2, hi2, hgg2, rfl, HP9, HX9, HNE⟩ := hrel
    by_cases hlt2 : i2 < j
    ·have hltz2 : (i2 : Int) < (j : Int) := by omega
     have hfl : i2 < fs.length := by omega
     obtain ⟨ad', As2, cs2, At2, ct2, e, hx0, hx1, hx2, hx3, hx4, hls2, hCs2, hlt5, hCt2⟩ := at_T52 HF.out (i2 : Int) (by omega) (by omega)
     obtain rfl := l13_ e
     rw [rdF_at hfl] at hx0 hx1 hx2 hx3 hx4
     rw [l14_] at hx0 hx1 hx2 hx3 hx4
     replace hx0 := ((HP9.out).hb.cell (l1_ w _ hx0)).trans hx0
     replace hx1 := ((HP9.out).hb.cell (l1_ w _ hx1)).trans hx1
     replace hx2 := ((HP9.out).hb.cell (l1_ w _ hx2)).trans hx2
     replace hx3 := ((HP9.out).hb.cell (l1_ w _ hx3)).trans hx3
     replace hx4 := ((HP9.out).hb.cell (l1_ w _ hx4)).trans hx4
     have HIN := mk0 (show fs[i2].f0 = f.f0 → f.f0 ∈ (fs.take j).map (·.f0) from fun h => by
      rw [← h]
      refine List.mem_map.2 ⟨fs[i2], ?_, rfl⟩
      rw [List.mem_iff_getElem]
      exact ⟨i2, by rw [HTL.out]; exact hlt2, by rw [List.getElem_take]⟩)
     have HNN := mk0 (show fs[i2].f0 ≠ f.f0 → ∀ (q : Nat) (h : q < fs.length), q < i2 + 1 → fs[q].f0 ≠ f.f0 from fun h q hq hqi => by
      by_cases e : q = i2
      ·subst e; exact h
      ·exact HNE.out q hq (by omega))
     clear hls2 hCs2 hlt5 hCt2 e
     generalize fs[i2] = g at *
     go_upto_region 11 with (fail)
     have HX10 := mk0 (aU_ wr (.cells #[.string g.f0, .slice As2 g.f1.f0.length cs2, .int .i64 g.f2.f0, .int .i64 g.f2.f1, .slice At2 g.f2.f2.length ct2] 52))
     have HY10 := mk0 (aD_ HX9.out (.cells #[.string g.f0, .slice As2 g.f1.f0.length cs2, .int .i64 g.f2.f0, .int .i64 g.f2.f1, .slice At2 g.f2.f2.length ct2] 52))
     have HP10 := mk0 ((HP9.out).below (aA_ (Below.refl _ _) (.cells #[.string g.f0, .slice As2 g.f1.f0.length cs2, .int .i64 g.f2.f0, .int .i64 g.f2.f1, .slice At2 g.f2.f2.length ct2] 52)))
     clear hx0 hx1 hx2 hx3 hx4 HP9 HX9
     generalize (wr.alloc (.cells #[.string g.f0, .slice As2 g.f1.f0.length cs2, .int .i64 g.f2.f0, .int .i64 g.f2.f1, .slice At2 g.f2.f2.length ct2] 52)) = w10 at *
     generalize wr.heap.size = b10 at *
     have m0 : w10.cell? ⟨b7, 0, none⟩ = some (.string f.f0) := (aC_ HY10.out 0).trans rfl
     have n0 : w10.cell? ⟨b10, 0, none⟩ = some (.string g.f0) := (aC_ HX10.out 0).trans rfl
     cases q : (f.f0.toList == g.f0.toList) with
     | true =>
      have HV := mk0 (HTW.out (HIN.out (bytes_eq.1 q).symm))
      go_wp2
      go_ret
      exact ⟨by rw [HV.out]; rfl, (HP10.out).hb⟩
     | false =>
      have HG := mk0 (HNN.out (fun e => by rw [e] at q; simp at q))
      go_wp2
      go_roundg (j - (i2 + 1))
      case measure => omega
      case rel => exact ⟨i2 + 1, by omega, by omega, by first | rfl | (rw [wrap_succ (by omega) (by have := (HN0.out).2; omega)]; rfl), HP10, HY10, HG⟩
    ·have hltz2 : ¬ (i2 : Int) < (j : Int) := by omega
     have hje : i2 = j := by omega
     subst hje
     have HG := mk0 (HNX.out ⟨HHO.out, HTN.out, HTD.out, fun hm => by
      obtain ⟨x, hx, e⟩ := List.mem_map.1 hm
      obtain ⟨q, hq, rfl⟩ := List.mem_iff_getElem.1 hx
      have h1 : q < i2 := by rw [HTL.out] at hq; exact hq
      rw [List.getElem_take] at e
      exact HNE.out q (by omega) h1 e⟩)
     go_wp2
     go_roundg (fs.length - (i2 + 1))
     case measure => omega
     case rel => exact ⟨i2 + 1, by omega, by omega, by first | rfl | (rw [wrap_succ (by omega) (by have := (HN0.out).2; omega)]; rfl), HP9, HG⟩
  ·have hltz : ¬ (j : Int) < (fs.length : Int) := by omega
   have hje : j = fs.length := by omega
   subst hje
   have HHA := mk0 (show ∀ f ∈ fs, headOk f = true ∧ tN f.f2 ≤ 400 ∧ tD f.f2 ≤ 30 from fun f hf => by
    obtain ⟨i, hi, rfl⟩ := List.mem_iff_getElem.1 hf
    have := HOK.out i hi hi
    exact ⟨this.1, this.2.1, this.2.2.1⟩)
   have HND := mk0 (show (fs.map (·.f0)).Nodup from nodup_of_take fun j hj hm => by
    have hj2 : j < fs.length := by simpa using hj
    refine (HOK.out j hj2 hj2).2.2.2 ?_
    rw [List.map_take]
    simpa using hm)
   have HSG2 := mk0 (fun h4 h7 => HSG.out h4 (fun f hf => (HHA.out f hf).1) HND.out h7)
   have HPV := mk0 (fun f (hf : f ∈ fs) => (show PV sy (fs.map (·.f1)) f.f1.f0 from ⟨symsB_rank HSY.out, fun s hs => by obtain ⟨g, hg, rfl⟩ := List.mem_map.1 hs; exact (headOk_N ((HHA.out g hg).1)).1, (headOk_N ((HHA.out f hf).1)).2⟩))
   clear HSG HND HOK
   obtain ⟨p0, p1⟩ := (HP.out).cells
   obtain ⟨ad, As, cs, At, ct, e, hx0, hx1, hx2, hx3, hx4, hls, hCs, hlt4, hCt⟩ := at_T52 HF.out 0 (by omega) (by have := (HN0.out).1; omega)
   subst e
   rw [show ((0 : Int).toNat * 5) = 0 from rfl, Addr.add_zero'] at hx1
   replace hx1 := ((HP.out).hb.cell (l1_ w _ hx1)).trans hx1
   clear hx0 hx2 hx3 hx4 hls hCs hlt4 hCt
   have h5z : (0 : Int) < (fs.length : Int) := by have := (HN0.out).1; omega
   have HST := mk0 (fun h => schB_start (sy := sy) (fs := fs) h)
   generalize (rd_T52 fs 0).f1.f0.length = n0 at *
   by_cases h4 : n0 = 0
   case neg =>
    have HV := mk0 (HST.out h4)
    have h4z : (n0 : Int) > 0 := by omega
    go_wp2
    go_ret
    exact ⟨by rw [HV.out]; rfl, (HP.out).hb⟩
   have HSG := mk0 (fun h7 => HSG2.out h4 h7)
   subst h4
   clear HST HSG2
   go_wp2
   clear p0 p1 hx1 h5z
   go_loopg [84] fs.length (fun gg v84 wi => ∃ (j : Nat), j ≤ fs.length ∧ fs.length - j ≤ gg ∧ v84 = .int .i64 j ∧ Aside0 (CB w wi (.slice A1 sy.length c1) (.slice (some ad) fs.length c2)) ∧ Aside0 (∀ (i : Nat) (h : i < fs.length), i < j → bodyOk sy fs fs[i] = true))
   case atStart => exact ⟨0, by omega, by omega, rfl, HP, ⟨fun i _ h => absurd h (Nat.not_lt_zero _)⟩⟩
   case round =>
    clear HP
    obtain ⟨j, hj, hgg, rfl, HP, HOK⟩ := hrel
    by_cases hlt : j < fs.length
    ·have hltz : (j : Int) < (fs.length : Int) := by omega
     obtain ⟨ad', As, cs, At, ct, e, hx0, hx1, hx2, hx3, hx4, hls, hCs, hlt4, hCt⟩ := at_T52 HF.out (j : Int) (by omega) hltz
     obtain rfl := l13_ e
     rw [rdF_at hlt] at hx0 hx1 hx2 hx3 hx4 hls hCs hlt4 hCt
     rw [l14_] at hx0 hx1 hx2 hx3 hx4
     replace hx0 := ((HP.out).hb.cell (l1_ w _ hx0)).trans hx0
     replace hx1 := ((HP.out).hb.cell (l1_ w _ hx1)).trans hx1
     replace hx2 := ((HP.out).hb.cell (l1_ w _ hx2)).trans hx2
     replace hx3 := ((HP.out).hb.cell (l1_ w _ hx3)).trans hx3
     replace hx4 := ((HP.out).hb.cell (l1_ w _ hx4)).trans hx4
     have HBD := mk0 (fun h => schB_body (sy := sy) (l11_ hlt) h)
     have HGD := mk0 (show bodyOk sy fs fs[j] = true → ∀ (i : Nat) (h : i < fs.length), i < j + 1 → bodyOk sy fs fs[i] = true from fun h i hi hij => by
      by_cases e : i = j
      ·subst e; exact h
      ·exact HOK.out i hi (by omega))
     have HPJ := mk0 (HPV.out _ (l11_ hlt))
     have HHJ := mk0 (HHA.out _ (l11_ hlt))
     have HPL := mk0 (fun (W : World) (hW : Below w.heap.size w W) => rplace_calls sy fs A1 (some ad) j c1 c2 W (Kd.C_below HF.out hW) (by have := (HN0.out).2; omega) hlt)
     have HCt := mk0 hCt
     have HLt := mk0 hlt4
     clear hCs hls hlt4 hCt e
     generalize fs[j] = f at *
     go_upto_region 20 with (fail)
     have HX6 := mk0 (aU_ wr (.cells #[.string f.f0, .slice As f.f1.f0.length cs, .int .i64 f.f2.f0, .int .i64 f.f2.f1, .slice At f.f2.f2.length ct] 52))
     have HP6 := mk0 ((HP.out).below (aA_ (Below.refl _ _) (.cells #[.string f.f0, .slice As f.f1.f0.length cs, .int .i64 f.f2.f0, .int .i64 f.f2.f1, .slice At f.f2.f2.length ct] 52)))
     clear hx0 hx1 hx2 hx3 hx4 HP
     generalize (wr.alloc (.cells #[.string f.f0, .slice As f.f1.f0.length cs, .int .i64 f.f2.f0, .int .i64 f.f2.f1, .slice At f.f2.f2.length ct] 52)) = w6 at *
     generalize wr.heap.size = b7 at *
     have HBO := mk0 (show bodyOk sy fs f = endO (ofV sy (fs.map (·.f1)) f.f1.f0 f.f2) from by unfold bodyOk; rw [l2_ (HHJ.out).2.1, l2_ (HHJ.out).2.2, Bool.true_and, Bool.true_and])
     have HK := mk0 (fun (W : World) (hW : Below w6.heap.size w6 W) => (show (W.cell? ⟨w.heap.size, 0, none⟩ = some (.slice A1 sy.length c1) ∧ W.cell? ⟨w.heap.size, 1, none⟩ = some (.slice (some ad) fs.length c2)) ∧ W.cell? ⟨b7, 2, none⟩ = some (.int .i64 f.f2.f0) ∧ W.cell? ⟨b7, 3, none⟩ = some (.int .i64 f.f2.f1) ∧ W.cell? ⟨b7, 4, none⟩ = some (.slice At f.f2.f2.length ct) from
      ⟨((HP6.out).below hW).cells, (aC_ (aK_ HX6.out hW) 2).trans rfl, (aC_ (aK_ HX6.out hW) 3).trans rfl, (aC_ (aK_ HX6.out hW) 4).trans rfl⟩))
     have HPL := mk0 (fun (W : World) (hW : Below w6.heap.size w6 W) => HPL.out W ((HP6.out).below hW).hb)
     have HOF := mk0 (fun (W0 W : World) (A A3 : Option Addr) (c c3 : Nat) (hC : Kd.C k47 W0 A (fs.map (·.f1)).length (fs.map (·.f1))) (hC3 : Kd.C k47 W0 A3 f.f1.f0.length f.f1.f0) (hW0 : Below w6.heap.size w6 W0) (hW : Below W0.heap.size W0 W) =>
      (show Calls Tryz.prog 67 #[.agg #[.slice A1 sy.length c1, .slice A fs.length c, .slice A3 f.f1.f0.length c3], .agg #[.int .i64 f.f2.f0, .int .i64 f.f2.f1, .slice At f.f2.f2.length ct]] W (OfC (ofV sy (fs.map (·.f1)) f.f1.f0 f.f2) W) from by
       have h := rofC_calls sy (fs.map (·.f1)) f.f1.f0 HPJ.out A1 A A3 c1 c c3 W0 (Kd.C_below HS.out ((HP6.out).below hW0).hb) hC hC3 f.f2 (by have := (HHJ.out).2.1; omega) At ct W (Kd.C_below HCt.out ((HP6.out).below hW0).hb) HLt.out hW
       rw [List.length_map] at h
       exact h))
     unfold PlaceE at HPL
     unfold OfC at HOF
     have HEO := mk0 (show endO (ofV sy (fs.map (·.f1)) f.f1.f0 f.f2) = ((ofV sy (fs.map (·.f1)) f.f1.f0 f.f2).isSome && decide (lenV (ofV sy (fs.map (·.f1)) f.f1.f0 f.f2) = 0)) from rfl)
     generalize (ofV sy (fs.map (·.f1)) f.f1.f0 f.f2).isSome = vb at *
     generalize lenV (ofV sy (fs.map (·.f1)) f.f1.f0 f.f2) = vn at *
     have hd := below_drew (Below.refl w6.heap.size w6)
     go_region_held3 (fun w' => (w'.cell? ⟨w.heap.size, 0, none⟩ = some (.slice A1 sy.length c1) ∧ w'.cell? ⟨w.heap.size, 1, none⟩ = some (.slice (some ad) fs.length c2)) ∧ w'.cell? ⟨b7, 2, none⟩ = some (.int .i64 f.f2.f0) ∧ w'.cell? ⟨b7, 3, none⟩ = some (.int .i64 f.f2.f1) ∧ w'.cell? ⟨b7, 4, none⟩ = some (.slice At f.f2.f2.length ct))
      (first | exact HK.out _ hd | exact HK.out _ hd1 | exact HK.out _ hd2 | exact HK.out _ (below_drew (aA_ (Below.refl w6.heap.size w6) (.cells #[.slice none 0 0] 47))) | exact HK.out _ (aA_ hd1 (.cells #[.slice none 0 0] 47)) | exact HK.out _ (aA_ hd2 (.cells #[.slice none 0 0] 47)) | exact HK.out _ (aA_ hd2 (.cells #[.slice Ao vn co] 47)) | exact HK.out _ (hd2.setCell (p := ⟨wp.heap.size, 0, none⟩) hle _) | exact HK.out _ (hd2.setCell (p := ⟨w6.heap.size, 0, none⟩) (Nat.le_refl _) _) | fail)
      (first
       | (go_at_call 68; (first | (with_reducible refine (HPL.out _ hd).mono ?_) | (have HN : ((w6.alloc (.cells #[.slice none 0 0] 47)).drew).heap[w6.heap.size]? = some (.cells #[.slice none 0 0] 47 (0, 0)) := aH_ (aU_ w6 _); have hd := below_drew (aA_ (Below.refl w6.heap.size w6) (.cells #[.slice none 0 0] 47)); with_reducible refine (HPL.out _ hd).mono ?_)); rintro E wp ⟨A3p, c3p, hl3p, hC3p, hbp, Apl, cpl, rfl, hlpl, hCpl⟩; have hd1 := aM_ hd hd.size hbp; (try have HN1 := aK_ HN hbp); have HCP := mk0 (And.intro hCpl hC3p); have hle := hd1.size; clear hlpl hCpl hl3p hC3p hbp; (try clear HN); clear hd)
       | (go_at_call 67; (first | (with_reducible refine (HOF.out _ _ _ _ _ _ (HCP.out).1 (HCP.out).2 hd1 (Below.refl _ _)).mono ?_) | (have HN1 : (wp.alloc (.cells #[.slice none 0 0] 47)).heap[wp.heap.size]? = some (.cells #[.slice none 0 0] 47 (0, 0)) := aU_ wp _; have hd3 := aA_ (Below.refl wp.heap.size wp) (.cells #[.slice none 0 0] 47); have hd1' := aA_ hd1 (.cells #[.slice none 0 0] 47); with_reducible refine (HOF.out _ _ _ _ _ _ (HCP.out).1 (HCP.out).2 hd1 hd3).mono ?_; clear hd1; have hd1 := hd1'; clear hd1' hd3)); rintro E wo ⟨Ao, co, rfl, hbo⟩; have hd2 := aM_ hd1 hd1.size hbo; (try have HN2 := aK_ HN1 hbo); clear hbo; (try clear HN1); clear hd1; (try (have hk0 := (aC_ HN2 0).trans rfl; have hf0 := aJ_ HN2 0)))
       | fail)
     all_goals
      first
       | (have HX10 := mk0 (show (wo.setCell ⟨wp.heap.size, 0, none⟩ (.slice Ao vn co)).heap[wp.heap.size]? = some (.cells #[.slice Ao vn co] 47 (0, 0)) from blk_set HN2 0 (.slice Ao vn co))
          have hbz := hd2.setCell (p := ⟨wp.heap.size, 0, none⟩) hle (.slice Ao vn co)
          generalize (wo.setCell ⟨wp.heap.size, 0, none⟩ (.slice Ao vn co)) = Wz at *
          clear HN2 hk0 hf0
          generalize wp.heap.size = b10 at *)
       | (have HX10 := mk0 (show (wo.setCell ⟨w6.heap.size, 0, none⟩ (.slice Ao vn co)).heap[w6.heap.size]? = some (.cells #[.slice Ao vn co] 47 (0, 0)) from blk_set HN2 0 (.slice Ao vn co))
          have hbz := hd2.setCell (p := ⟨w6.heap.size, 0, none⟩) (Nat.le_refl _) (.slice Ao vn co)
          generalize (wo.setCell ⟨w6.heap.size, 0, none⟩ (.slice Ao vn co)) = Wz at *
          have HP10 := mk0 ((HP6.out).below hbz)
          clear HN2 hk0 hf0 hbz hle hd2 HPL HOF HK HP6
          generalize w6.heap.size = b10 at *)
       | (have HX10 := mk0 (aU_ wo (.cells #[.slice Ao vn co] 47))
          have hbz := aA_ hd2 (.cells #[.slice Ao vn co] 47)
          generalize (wo.alloc (.cells #[.slice Ao vn co] 47)) = Wz at *
          generalize wo.heap.size = b10 at *)
      (try have HP10 := mk0 ((HP6.out).below hbz))
      have k0 : Wz.cell? ⟨b10, 0, none⟩ = some (.slice Ao vn co) := (aC_ HX10.out 0).trans rfl
      cases vb with
      | false =>
       have HV := mk0 (HBD.out (by rw [HBO.out, HEO.out]; rfl))
       go_wp2
       go_ret
       refine ⟨?_, (HP10.out).hb⟩
       rw [HV.out]; rfl
      | true =>
      by_cases hvn : vn = 0
      ·have HG := mk0 (HGD.out (by rw [HBO.out, HEO.out, l2_ hvn]; rfl))
       subst hvn
       go_wp2
       go_roundg (fs.length - (j + 1))
       case measure => omega
       case rel => exact ⟨j + 1, by omega, by omega, by first | rfl | (rw [wrap_succ (by omega) (by have := (HN0.out).2; omega)]; rfl), HP10, HG⟩
      ·have HV := mk0 (HBD.out (by rw [HBO.out, HEO.out, l3_ hvn]; rfl))
       have hvz : (0 : Int) < (vn : Int) := by omega
       go_wp2
       go_ret
       refine ⟨?_, (HP10.out).hb⟩
       rw [HV.out]; rfl
    ·have hltz : ¬ (j : Int) < (fs.length : Int) := by omega
     have hje : j = fs.length := by omega
     subst hje
     have HV := mk0 (HSG.out (fun f hf => by obtain ⟨i, hi, rfl⟩ := List.mem_iff_getElem.1 hf; exact HOK.out i hi hi))
     go_wp2
     go_ret
     refine ⟨?_, (HP.out).hb⟩
     rw [HV.out]
     all_goals first | rfl | trivial
end Go.Proofs.YthflpbgloeimfaaGreatDoor.H
namespace Go.Proofs.YthflpbgloeimfaaGreatDoor.H
open Go.RowKit Go.Proofs.YthflpbgloeimfaaGreatDoorW.PrintWords Go.Proofs.YthflpbgloeimfaaGreatDoorW.PrintLast Go.Proofs.YthflpbgloeimfaaGreatDoorW.PrintMore
open Go.Proofs.YthflpbgloeimfaaGreatDoor.Q (S47 k47 rd_T47 z47 at_T47 S50 k50 rd_T50 z50 at_T50 S52 k52 rd_T52 at_T52 z52 S71 k71 rd_T71 at_T71)
attribute [local go_sem] max2_int min2_int max_two min_two max_three min_three max_four min_four
set_option linter.unusedVariables false
set_option linter.unusedSimpArgs false
theorem info3 : (Tryz.prog.info? 3).map (fun i => (i.zero, i.size, i.bytes)) = some (some (.int .i64 0), 1, 8) := by kernel_rfl
def ordL : List S52 → Nat
 | [] => 0
 | f :: r => max (sO f.f1) (ordL r)
theorem ordL_snoc (a : List S52) (f : S52) : ordL (a ++ [f]) = max (ordL a) (sO f.f1) := by
 induction a with
 | nil => simp [ordL]
 | cons y r ih => rw [List.cons_append, ordL, ordL, ih]; omega
def ordV (sy : List S71) (fs : List S52) : Int × Int := if schB sy fs then ((ordL fs : Int), 0) else (0, 7)
def rksV (sy : List S71) (fs : List S52) : List Int × Int := if schB sy fs then (sy.map (·.f1), 0) else ([], 7)
theorem schB_parts {sy : List S71} {fs : List S52} (h : schB sy fs = true) : (symsB sy = true ∧ 1 ≤ fs.length ∧ fs.length ≤ 64) ∧ (rd_T52 fs 0).f1.f0.length = 0 ∧ (∀ f ∈ fs, headOk f = true) ∧ (fs.map (·.f0)).Nodup ∧ ∀ f ∈ fs, bodyOk sy fs f = true := by
 unfold schB at h
 simp only [l19_, l20_, List.all_eq_true] at h
 obtain ⟨⟨⟨⟨⟨⟨h1, h2⟩, h3⟩, h4⟩, h5⟩, h6⟩, h7⟩ := h
 exact ⟨⟨h1, h2, h3⟩, h4, h5, h6, h7⟩
theorem headOk_srt {f : S52} (h : headOk f = true) : srtB f.f1 = true := by unfold headOk at h; rw [l19_] at h; exact h.2
def RksE (v : List Int × Int) (w : World) (E : Ending) (w' : World) : Prop :=
 Below w.heap.size w w' ∧ ∃ u : Value, E = .returned (.tuple #[u, .int .i64 v.2]) ∧ Kd.R (Kd.int .i64) 3 w' w.heap.size (fun k => w.heap.size ≤ k) u v.1
set_option maxHeartbeats 8000000 in
set_option maxRecDepth 100000 in
theorem sorderS_calls (sy : List S71) (fs : List S52) (A1 A2 : Option Addr) (c1 c2 : Nat) (w : World) (hS : Kd.C k71 w A1 sy.length sy) (hF : Kd.C k52 w A2 fs.length fs) :
  Calls Tryz.prog 24 #[.agg #[.slice A1 sy.length c1, .slice A2 fs.length c2]] w fun E w' => E = .returned (.tuple #[.int .i64 (ordV sy fs).1, .int .i64 (ordV sy fs).2]) ∧ Below w.heap.size w w' := by
 have HS := mk0 hS
 have HF := mk0 hF
 have HP := mk0 (CB.mk (aA_ (Below.refl w.heap.size w) (.cells #[.slice A1 sy.length c1, .slice A2 fs.length c2] 25)) (aU_ w (.cells #[.slice A1 sy.length c1, .slice A2 fs.length c2] 25)))
 have HCK := mk0 (fun (W : World) (hW : Below w.heap.size w W) => scheme_calls sy fs A1 A2 c1 c2 W (Kd.C_below hS hW) (Kd.C_below hF hW))
 clear hS hF
 go_enter Tryz.func24, Tryz.ntmps24
 go_upto_region 1 with (fail)
 generalize w.alloc (.cells #[.slice A1 sy.length c1, .slice A2 fs.length c2] 25) = W1 at *
 obtain ⟨p0, p1⟩ := (HP.out).cells
 go_wp2_with fail
 refine (HCK.out W1 (HP.out).hb).mono ?_
 rintro E w2 ⟨rfl, hb⟩
 have HP2 := mk0 ((HP.out).below hb)
 clear hb p0 p1 HP HCK
 obtain ⟨p0, p1⟩ := (HP2.out).cells
 cases q : schB sy fs with
 | false =>
  have HV := mk0 (show ordV sy fs = (0, 7) by unfold ordV; rw [q]; rfl)
  rw [schV_bad q]
  clear q
  go_wp2
  go_ret2
  exact ⟨by rw [HV.out]; rfl, (HP2.out).hb⟩
 | true =>
  have HV := mk0 (show ordV sy fs = ((ordL fs : Int), 0) by unfold ordV; rw [q]; rfl)
  have HQ := mk0 (schB_parts q)
  rw [schV_good q]
  clear q
  go_wp2
  clear p0 p1
  go_loopg [5, 18] fs.length (fun gg v5 v18 wi => ∃ (j : Nat), j ≤ fs.length ∧ fs.length - j ≤ gg ∧ v5 = .int .i64 (ordL (fs.take j) : Int) ∧ v18 = .int .i64 j ∧ Aside0 (Below w.heap.size w wi))
  case atStart => exact ⟨0, by omega, by omega, by rw [List.take_zero, ordL]; rfl, rfl, ⟨(HP2.out).hb⟩⟩
  case round =>
   clear HP2
   obtain ⟨j, hj, hgg, rfl, rfl, HB⟩ := hrel
   by_cases hlt : j < fs.length
   ·have hltz : (j : Int) < (fs.length : Int) := by omega
    obtain ⟨ad, As, cs, At, ct, e, hx0, hx1, hx2, hx3, hx4, hls, hCs, hlt4, hCt⟩ := at_T52 HF.out (j : Int) (by omega) hltz
    subst e
    rw [rdF_at hlt] at hx0 hx1 hx2 hx3 hx4 hls hCs hlt4 hCt
    rw [l14_] at hx0 hx1 hx2 hx3 hx4
    replace hx0 := ((HB.out).cell (l1_ w _ hx0)).trans hx0
    replace hx1 := ((HB.out).cell (l1_ w _ hx1)).trans hx1
    replace hx2 := ((HB.out).cell (l1_ w _ hx2)).trans hx2
    replace hx3 := ((HB.out).cell (l1_ w _ hx3)).trans hx3
    replace hx4 := ((HB.out).cell (l1_ w _ hx4)).trans hx4
    have HT := mk0 (show ordL (fs.take (j + 1)) = max (ordL (fs.take j)) (sO fs[j].f1) by rw [takeS hlt, ordL_snoc])
    have HSB := mk0 (headOk_srt ((HQ.out).2.2.1 _ (l11_ hlt)))
    have HCs := mk0 hCs
    have HLs := mk0 hls
    clear hCs hls hlt4 hCt
    generalize fs[j] = f at *
    go_upto_region 8 with (fail)
    have HX5 := mk0 (aU_ wr (.cells #[.string f.f0, .slice As f.f1.f0.length cs, .int .i64 f.f2.f0, .int .i64 f.f2.f1, .slice At f.f2.f2.length ct] 52))
    have HB5 := mk0 (aA_ HB.out (.cells #[.string f.f0, .slice As f.f1.f0.length cs, .int .i64 f.f2.f0, .int .i64 f.f2.f1, .slice At f.f2.f2.length ct] 52))
    clear hx0 hx1 hx2 hx3 hx4 HB
    generalize (wr.alloc (.cells #[.string f.f0, .slice As f.f1.f0.length cs, .int .i64 f.f2.f0, .int .i64 f.f2.f1, .slice At f.f2.f2.length ct] 52)) = w5 at *
    generalize wr.heap.size = b7 at *
    have m1 : w5.cell? ⟨b7, 1, none⟩ = some (.slice As f.f1.f0.length cs) := (aC_ HX5.out 1).trans rfl
    have HOC := mk0 (sOrder_calls f.f1 As cs w5 (Kd.C_below HCs.out HB5.out) HLs.out)
    go_wp2_with fail
    refine (HOC.out).mono ?_
    rintro E w6 ⟨rfl, hb⟩
    have HB6 := mk0 (aM_ HB5.out (HB5.out).size hb)
    clear hb m1 HX5 HB5 HOC
    rw [show sOrdV f.f1 = ((sO f.f1 : Int), 0) by unfold sOrdV; rw [HSB.out]; rfl]
    by_cases hmx : (ordL (fs.take j) : Int) < (sO f.f1 : Int)
    ·have HE := mk0 (show ordL (fs.take (j + 1)) = sO f.f1 by rw [HT.out]; omega)
     go_wp2
     go_roundg (fs.length - (j + 1))
     case measure => omega
     case rel => exact ⟨j + 1, by omega, by omega, by rw [HE.out], by first | rfl | (rw [wrap_succ (by omega) (by have := (HQ.out).1.2.2; omega)]; rfl), HB6⟩
    ·have HE := mk0 (show ordL (fs.take (j + 1)) = ordL (fs.take j) by rw [HT.out]; omega)
     go_wp2
     go_roundg (fs.length - (j + 1))
     case measure => omega
     case rel => exact ⟨j + 1, by omega, by omega, by rw [HE.out], by first | rfl | (rw [wrap_succ (by omega) (by have := (HQ.out).1.2.2; omega)]; rfl), HB6⟩
   ·have hltz : ¬ (j : Int) < (fs.length : Int) := by omega
    have hje : j = fs.length := by omega
    subst hje
    rw [List.take_length]
    go_wp2
    go_ret2
    refine ⟨?_, HB.out⟩
    rw [HV.out]
    all_goals first | rfl | trivial
set_option maxHeartbeats 8000000 in
set_option maxRecDepth 100000 in
theorem sranksS_calls (sy : List S71) (fs : List S52) (A1 A2 : Option Addr) (c1 c2 : Nat) (w : World) (hS : Kd.C k71 w A1 sy.length sy) (hF : Kd.C k52 w A2 fs.length fs) :
  Calls Tryz.prog 26 #[.agg #[.slice A1 sy.length c1, .slice A2 fs.length c2]] w (RksE (rksV sy fs) w) := by
 have HS := mk0 hS
 have HF := mk0 hF
 have HP := mk0 (CB.mk (aA_ (Below.refl w.heap.size w) (.cells #[.slice A1 sy.length c1, .slice A2 fs.length c2] 25)) (aU_ w (.cells #[.slice A1 sy.length c1, .slice A2 fs.length c2] 25)))
 have HCK := mk0 (fun (W : World) (hW : Below w.heap.size w W) => scheme_calls sy fs A1 A2 c1 c2 W (Kd.C_below hS hW) (Kd.C_below hF hW))
 clear hS hF
 go_enter Tryz.func26, Tryz.ntmps26
 go_upto_region 1 with (fail)
 generalize w.alloc (.cells #[.slice A1 sy.length c1, .slice A2 fs.length c2] 25) = W1 at *
 obtain ⟨p0, p1⟩ := (HP.out).cells
 go_wp2_with fail
 refine (HCK.out W1 (HP.out).hb).mono ?_
 rintro E w2 ⟨rfl, hb⟩
 have HP2 := mk0 ((HP.out).below hb)
 clear hb p0 p1 HP HCK
 obtain ⟨p0, p1⟩ := (HP2.out).cells
 cases q : schB sy fs with
 | false =>
  have HV := mk0 (show rksV sy fs = ([], 7) by unfold rksV; rw [q]; rfl)
  rw [schV_bad q]
  clear q
  go_wp2
  go_ret2
  rw [HV.out]
  exact ⟨(HP2.out).hb, _, rfl, Kd.R_nil _ _ _ _ _⟩
 | true =>
  have HV := mk0 (show rksV sy fs = (sy.map (·.f1), 0) by unfold rksV; rw [q]; rfl)
  have HN := mk0 (show sy.length ≤ 24 from (symsB_len (schB_parts q).1.1).1)
  rw [schV_good q]
  clear q
  go_wp2
  clear p0 p1
  go_loopg [5, 16] sy.length (fun gg v5 v16 wi => ∃ (j : Nat), j ≤ sy.length ∧ sy.length - j ≤ gg ∧ v16 = .int .i64 j ∧ Aside0 (Below w.heap.size w wi) ∧ Aside0 (Kd.R (Kd.int .i64) 3 wi w.heap.size (fun k => w.heap.size ≤ k) v5 ((sy.take j).map (·.f1))))
  case atStart => exact ⟨0, by omega, by omega, rfl, ⟨(HP2.out).hb⟩, ⟨Kd.R_nil _ _ _ _ _⟩⟩
  case round =>
   clear HP2
   obtain ⟨j, hj, hgg, rfl, HB, HR⟩ := hrel
   obtain ⟨A, c, rfl⟩ := Kd.R_slice HR.out
   have HTL := mk0 (show ((sy.take j).map (·.f1)).length = j by rw [List.length_map, List.length_take]; omega)
   by_cases hlt : j < sy.length
   ·have hltz : (j : Int) < (sy.length : Int) := by omega
    obtain ⟨ad, e, hx0, hx1⟩ := at_T71 HS.out (j : Int) (by omega) hltz
    subst e
    rw [rdY_at hlt] at hx0 hx1
    rw [l14_] at hx0 hx1
    replace hx0 := ((HB.out).cell (l1_ w _ hx0)).trans hx0
    replace hx1 := ((HB.out).cell (l1_ w _ hx1)).trans hx1
    have HT := mk0 (show (sy.take (j + 1)).map (·.f1) = (sy.take j).map (·.f1) ++ [sy[j].f1] by rw [takeS hlt, List.map_append]; rfl)
    generalize sy[j] = u at *
    go_upto_region 8 with (fail)
    have HX5 := mk0 (aU_ wr (.cells #[.string u.f0, .int .i64 u.f1] 71))
    have HB5 := mk0 (aA_ HB.out (.cells #[.string u.f0, .int .i64 u.f1] 71))
    have HR5 := mk0 (Kd.R_below HR.out (aA_ (Below.refl wr.heap.size wr) (.cells #[.string u.f0, .int .i64 u.f1] 71)))
    clear hx0 hx1 HB HR
    generalize (wr.alloc (.cells #[.string u.f0, .int .i64 u.f1] 71)) = w5 at *
    generalize wr.heap.size = b7 at *
    have m1 : w5.cell? ⟨b7, 1, none⟩ = some (.int .i64 u.f1) := (aC_ HX5.out 1).trans rfl
    generalize u.f1 = r at *
    generalize (sy.take j).map (·.f1) = xs at *
    go_wp2_with ((with_reducible refine gate_builtin (b := .append) (xs := #[.tmp 20, .tmp 23]) rfl ?_); at_builtin; refine Kd.R_append (Kd.int .i64) (w0 := w) w.heap.size rfl (.tmp 20) (.tmp 23) 39 3 (.int .i64 0) 8 rfl Tryz.underlying39 info3 rfl (by decide) (by decide) (.slice A xs.length c) xs r [.int .i64 r] (fun k => w.heap.size ≤ k) (fun _ => False) rfl rfl rfl (fun _ hk => hk.elim) (fun k hk => Nat.le_trans (HB5.out).size hk) HR5.out HB5.out (HB5.out).size (by have := HTL.out; have := HN.out; omega) ?_; intro v5 w6 ho5 hb5 hg5 hat5; have HR6 := mk0 ho5; have HB6 := mk0 hb5; clear ho5 hb5 hg5 hat5)
    go_roundg (sy.length - (j + 1))
    case measure => omega
    case rel => exact ⟨j + 1, by omega, by omega, by first | rfl | (rw [wrap_succ (by omega) (by have := HN.out; omega)]; rfl), HB6, ⟨by rw [HT.out]; exact HR6.out⟩⟩
   ·have hltz : ¬ (j : Int) < (sy.length : Int) := by omega
    have hje : j = sy.length := by omega
    subst hje
    rw [List.take_length] at HR
    go_wp2
    go_ret2
    rw [HV.out]
    refine ⟨HB.out, _, rfl, ?_⟩
    have h1 := HR.out
    rw [List.length_map] at h1
    first
     | exact h1
     | (rw [List.take_length] ; exact h1)
     | (simpa using h1)
end Go.Proofs.YthflpbgloeimfaaGreatDoor.H
namespace Go.Proofs.YthflpbgloeimfaaGreatDoor.H
open Go.RowKit Go.Proofs.YthflpbgloeimfaaGreatDoorW.PrintWords Go.Proofs.YthflpbgloeimfaaGreatDoorW.PrintLast Go.Proofs.YthflpbgloeimfaaGreatDoorW.PrintMore
open Go.Proofs.YthflpbgloeimfaaGreatDoor.Q (S47 k47 rd_T47 z47 at_T47 S50 k50 rd_T50 z50 at_T50 S52 k52 rd_T52 at_T52 z52 S71 k71 rd_T71 at_T71)
set_option linter.unusedVariables false
set_option linter.unusedSimpArgs false
theorem rtequal_calls (a b : S50) (A : Option Addr) (c : Nat) (B : Option Addr) (d : Nat) (w : World) (ha : Kd.C k50 w A a.f2.length a.f2) (hac : a.f2.length ≤ c) (hb : Kd.C k50 w B b.f2.length b.f2) (hbc : b.f2.length ≤ d) (hn : tN a ≤ 1000000) :
  Calls Tryz.prog 87 #[.agg #[.int .i64 a.f0, .int .i64 a.f1, .slice A a.f2.length c], .agg #[.int .i64 b.f0, .int .i64 b.f1, .slice B b.f2.length d]] w fun E w' => E = .returned (.bool (tE a b)) ∧ Below w.heap.size w w' := by
 obtain ⟨k, hk⟩ := (tequal_ev 1000000 a b hn (by omega)).rounds
 exact Q.virgationref02_Equal.calls k a.f0 a.f1 A c a.f2 b.f0 b.f1 B d b.f2 (tE a b) w ha hac hb hbc hk
structure BX (w W : World) (s1 s2 t1 t2 : Value) : Prop where
 hb : Below w.heap.size w W
 a : W.heap[w.heap.size]? = some (.cells #[s1, s2] 25 (0, 0))
 b : W.heap[w.heap.size + 1]? = some (.cells #[t1, t2] 25 (0, 0))
theorem BX.start (w : World) (s1 s2 t1 t2 : Value) : BX w ((w.alloc (.cells #[s1, s2] 25)).alloc (.cells #[t1, t2] 25)) s1 s2 t1 t2 := ⟨aA_ (aA_ (Below.refl _ _) _) _, aD_ (aU_ w _) _, blk_at2 w _ _⟩
theorem BX.below {w W W1 : World} {s1 s2 t1 t2 : Value} (h : BX w W s1 s2 t1 t2) (hb : Below W.heap.size W W1) : BX w W1 s1 s2 t1 t2 := ⟨aM_ h.hb h.hb.size hb, aK_ h.a hb, aK_ h.b hb⟩
theorem BX.cells {w W : World} {s1 s2 t1 t2 : Value} (h : BX w W s1 s2 t1 t2) : (W.cell? ⟨w.heap.size, 0, none⟩ = some s1 ∧ W.cell? ⟨w.heap.size, 1, none⟩ = some s2) ∧ W.cell? ⟨w.heap.size + 1, 0, none⟩ = some t1 ∧ W.cell? ⟨w.heap.size + 1, 1, none⟩ = some t2 :=
 ⟨⟨(aC_ h.a 0).trans rfl, (aC_ h.a 1).trans rfl⟩, (aC_ h.b 0).trans rfl, (aC_ h.b 1).trans rfl⟩
set_option maxHeartbeats 16000000 in
set_option maxRecDepth 100000 in
theorem requalS_calls (sy : List S71) (fs : List S52) (A1 A2 B1 B2 : Option Addr) (c1 c2 d1 d2 : Nat) (w : World) (hS : Kd.C k71 w A1 sy.length sy) (hF : Kd.C k52 w A2 fs.length fs) (hS2 : Kd.C k71 w B1 sy.length sy) (hF2 : Kd.C k52 w B2 fs.length fs)
  (hN : ∀ f ∈ fs, sN f.f1 ≤ 1000000 ∧ tN f.f2 ≤ 1000000) (hl1 : sy.length ≤ 1000000) (hl2 : fs.length ≤ 1000000) :
  Calls Tryz.prog 35 #[.agg #[.slice A1 sy.length c1, .slice A2 fs.length c2], .agg #[.slice B1 sy.length d1, .slice B2 fs.length d2]] w fun E w' => E = .returned (.bool true) ∧ Below w.heap.size w w' := by
 have HS := mk0 hS
 have HF := mk0 hF
 have HS2 := mk0 hS2
 have HF2 := mk0 hF2
 have HN := mk0 hN
 have HL1 := mk0 hl1
 have HL2 := mk0 hl2
 have HB := mk0 (BX.start w (.slice A1 sy.length c1) (.slice A2 fs.length c2) (.slice B1 sy.length d1) (.slice B2 fs.length d2))
 clear hS hF hS2 hF2 hN hl1 hl2
 go_enter Tryz.func35, Tryz.ntmps35
 go_upto_region 1 with (fail)
 generalize ((w.alloc (.cells #[.slice A1 sy.length c1, .slice A2 fs.length c2] 25)).alloc (.cells #[.slice B1 sy.length d1, .slice B2 fs.length d2] 25)) = W1 at *
 obtain ⟨⟨p0, p1⟩, q0, q1⟩ := (HB.out).cells
 go_wp2
 clear p0 p1 q0 q1
 go_loopg [26] sy.length (fun gg v26 wi => ∃ (j : Nat), j ≤ sy.length ∧ sy.length - j ≤ gg ∧ v26 = .int .i64 j ∧ Aside0 (BX w wi (.slice A1 sy.length c1) (.slice A2 fs.length c2) (.slice B1 sy.length d1) (.slice B2 fs.length d2)))
 case atStart => exact ⟨0, by omega, by omega, rfl, HB⟩
 case round =>
  clear HB
  obtain ⟨j, hj, hgg, rfl, HB⟩ := hrel
  by_cases hlt : j < sy.length
  ·have hltz : (j : Int) < (sy.length : Int) := by omega
   have HLT := mk0 hlt
   obtain ⟨ad, e, hx0, hx1⟩ := at_T71 HS.out (j : Int) (by omega) hltz
   subst e
   obtain ⟨bd, e, hy0, hy1⟩ := at_T71 HS2.out (j : Int) (by omega) hltz
   subst e
   rw [l14_] at hx0 hx1 hy0 hy1
   replace hx0 := ((HB.out).hb.cell (l1_ w _ hx0)).trans hx0
   replace hx1 := ((HB.out).hb.cell (l1_ w _ hx1)).trans hx1
   replace hy0 := ((HB.out).hb.cell (l1_ w _ hy0)).trans hy0
   replace hy1 := ((HB.out).hb.cell (l1_ w _ hy1)).trans hy1
   have HKZ := mk0 (show wrap64 ((j : Int) + 1) = ((j + 1 : Nat) : Int) by rw [wr_id (by omega) (by have := HL1.out; omega)]; rfl)
   generalize rd_T71 sy (j : Int) = u at *
   obtain ⟨⟨p0, p1⟩, q0, q1⟩ := (HB.out).cells
   have hnn : (0 : Int) ≤ (j : Int) := by omega
   go_upto_region 6 with (fail)
   go_quiet (fail)
   have HB2 := mk0 ((HB.out).below (aB_ (Below.refl wr.heap.size wr) nq))
   clear p0 p1 q0 q1 hx0 hx1 hy0 hy1 HB
   generalize wr.drewN nq = w5 at *
   go_wp2
   go_roundg (sy.length - (j + 1))
   case measure => have := HLT.out; omega
   case rel => exact ⟨j + 1, HLT.out, Nat.le_refl _, by rw [HKZ.out], HB2⟩
  ·have hltz : ¬ (j : Int) < (sy.length : Int) := by omega
   clear hlt hj hgg
   obtain ⟨⟨p0, p1⟩, q0, q1⟩ := (HB.out).cells
   go_wp2
   clear p0 p1 q0 q1 hltz
   go_loopg [44] fs.length (fun gg v44 wi => ∃ (j : Nat), j ≤ fs.length ∧ fs.length - j ≤ gg ∧ v44 = .int .i64 j ∧ Aside0 (BX w wi (.slice A1 sy.length c1) (.slice A2 fs.length c2) (.slice B1 sy.length d1) (.slice B2 fs.length d2)))
   case atStart => exact ⟨0, by omega, by omega, rfl, HB⟩
   case round =>
    clear HB
    obtain ⟨j, hj, hgg, rfl, HB⟩ := hrel
    by_cases hlt : j < fs.length
    ·have hltz : (j : Int) < (fs.length : Int) := by omega
     have HLT := mk0 hlt
     obtain ⟨ad, As, cs, At, ct, e, hx0, hx1, hx2, hx3, hx4, hls, hCs, hlt4, hCt⟩ := at_T52 HF.out (j : Int) (by omega) hltz
     subst e
     obtain ⟨bd, Bs, ds, Bt, dt, e, hy0, hy1, hy2, hy3, hy4, hms, hDs, hmt4, hDt⟩ := at_T52 HF2.out (j : Int) (by omega) hltz
     subst e
     rw [rdF_at hlt] at hx0 hx1 hx2 hx3 hx4 hls hCs hlt4 hCt hy0 hy1 hy2 hy3 hy4 hms hDs hmt4 hDt
     rw [l14_] at hx0 hx1 hx2 hx3 hx4 hy0 hy1 hy2 hy3 hy4
     have HKZ := mk0 (show wrap64 ((j : Int) + 1) = ((j + 1 : Nat) : Int) by rw [wr_id (by omega) (by have := HL2.out; omega)]; rfl)
     have HNN := mk0 (HN.out _ (l11_ hlt))
     generalize fs[j] = f at *
     have HK := mk0 (fun (W : World) (hW : Below wr.heap.size wr W) => (show ((W.cell? ⟨w.heap.size, 0, none⟩ = some (.slice A1 sy.length c1) ∧ W.cell? ⟨w.heap.size, 1, none⟩ = some (.slice (some ad) fs.length c2)) ∧ W.cell? ⟨w.heap.size + 1, 0, none⟩ = some (.slice B1 sy.length d1) ∧ W.cell? ⟨w.heap.size + 1, 1, none⟩ = some (.slice (some bd) fs.length d2)) ∧
       (W.cell? (ad.add (j * 5)) = some (.string f.f0) ∧ W.cell? ⟨(ad.add (j * 5)).block, (ad.add (j * 5)).off + 1, none⟩ = some (.slice As f.f1.f0.length cs) ∧ W.cell? ⟨(ad.add (j * 5)).block, (ad.add (j * 5)).off + 2, none⟩ = some (.int .i64 f.f2.f0) ∧ W.cell? ⟨(ad.add (j * 5)).block, (ad.add (j * 5)).off + 3, none⟩ = some (.int .i64 f.f2.f1) ∧ W.cell? ⟨(ad.add (j * 5)).block, (ad.add (j * 5)).off + 4, none⟩ = some (.slice At f.f2.f2.length ct)) ∧
       (W.cell? (bd.add (j * 5)) = some (.string f.f0) ∧ W.cell? ⟨(bd.add (j * 5)).block, (bd.add (j * 5)).off + 1, none⟩ = some (.slice Bs f.f1.f0.length ds) ∧ W.cell? ⟨(bd.add (j * 5)).block, (bd.add (j * 5)).off + 2, none⟩ = some (.int .i64 f.f2.f0) ∧ W.cell? ⟨(bd.add (j * 5)).block, (bd.add (j * 5)).off + 3, none⟩ = some (.int .i64 f.f2.f1) ∧ W.cell? ⟨(bd.add (j * 5)).block, (bd.add (j * 5)).off + 4, none⟩ = some (.slice Bt f.f2.f2.length dt)) from by
      have hB := ((HB.out).below hW)
      exact ⟨hB.cells, ⟨(hB.hb.cell (l1_ w _ hx0)).trans hx0, (hB.hb.cell (l1_ w _ hx1)).trans hx1, (hB.hb.cell (l1_ w _ hx2)).trans hx2, (hB.hb.cell (l1_ w _ hx3)).trans hx3, (hB.hb.cell (l1_ w _ hx4)).trans hx4⟩,
       (hB.hb.cell (l1_ w _ hy0)).trans hy0, (hB.hb.cell (l1_ w _ hy1)).trans hy1, (hB.hb.cell (l1_ w _ hy2)).trans hy2, (hB.hb.cell (l1_ w _ hy3)).trans hy3, (hB.hb.cell (l1_ w _ hy4)).trans hy4⟩))
     have HT1 := mk0 (fun (W : World) (hW : Below wr.heap.size wr W) => requal_calls f.f1 f.f1 As cs Bs ds W (Kd.C_below hCs ((HB.out).below hW).hb) hls (Kd.C_below hDs ((HB.out).below hW).hb) hms (HNN.out).1)
     have HT2 := mk0 (fun (W : World) (hW : Below wr.heap.size wr W) => rtequal_calls f.f2 f.f2 At ct Bt dt W (Kd.C_below hCt ((HB.out).below hW).hb) hlt4 (Kd.C_below hDt ((HB.out).below hW).hb) hmt4 (HNN.out).2)
     rw [sE_iff.2 rfl] at HT1
     rw [tE_iff.2 rfl] at HT2
     clear hx0 hx1 hx2 hx3 hx4 hls hCs hlt4 hCt hy0 hy1 hy2 hy3 hy4 hms hDs hmt4 hDt
     have hd := below_drew (Below.refl wr.heap.size wr)
     have hnn : (0 : Int) ≤ (j : Int) := by omega
     go_upto_region 12 with (fail)
     go_region_held3 (fun W => ((W.cell? ⟨w.heap.size, 0, none⟩ = some (.slice A1 sy.length c1) ∧ W.cell? ⟨w.heap.size, 1, none⟩ = some (.slice (some ad) fs.length c2)) ∧ W.cell? ⟨w.heap.size + 1, 0, none⟩ = some (.slice B1 sy.length d1) ∧ W.cell? ⟨w.heap.size + 1, 1, none⟩ = some (.slice (some bd) fs.length d2)) ∧
       (W.cell? (ad.add (j * 5)) = some (.string f.f0) ∧ W.cell? ⟨(ad.add (j * 5)).block, (ad.add (j * 5)).off + 1, none⟩ = some (.slice As f.f1.f0.length cs) ∧ W.cell? ⟨(ad.add (j * 5)).block, (ad.add (j * 5)).off + 2, none⟩ = some (.int .i64 f.f2.f0) ∧ W.cell? ⟨(ad.add (j * 5)).block, (ad.add (j * 5)).off + 3, none⟩ = some (.int .i64 f.f2.f1) ∧ W.cell? ⟨(ad.add (j * 5)).block, (ad.add (j * 5)).off + 4, none⟩ = some (.slice At f.f2.f2.length ct)) ∧
       (W.cell? (bd.add (j * 5)) = some (.string f.f0) ∧ W.cell? ⟨(bd.add (j * 5)).block, (bd.add (j * 5)).off + 1, none⟩ = some (.slice Bs f.f1.f0.length ds) ∧ W.cell? ⟨(bd.add (j * 5)).block, (bd.add (j * 5)).off + 2, none⟩ = some (.int .i64 f.f2.f0) ∧ W.cell? ⟨(bd.add (j * 5)).block, (bd.add (j * 5)).off + 3, none⟩ = some (.int .i64 f.f2.f1) ∧ W.cell? ⟨(bd.add (j * 5)).block, (bd.add (j * 5)).off + 4, none⟩ = some (.slice Bt f.f2.f2.length dt)))
      (first | exact HK.out _ hd | exact HK.out _ hd1 | exact HK.out _ hd2 | fail)
      (first
       | (go_at_call 86; with_reducible refine (HT1.out _ hd).mono ?_; rintro E wp ⟨rfl, hbp⟩; have hd1 := aM_ hd hd.size hbp; clear hbp hd)
       | (go_at_call 87; with_reducible refine (HT2.out _ hd1).mono ?_; rintro E wo ⟨rfl, hbo⟩; have hd2 := aM_ hd1 hd1.size hbo; clear hbo hd1)
       | fail)
     all_goals
      have HB3 := mk0 ((HB.out).below hd2)
      clear hd2 HB HK HT1 HT2
      go_wp2
      go_roundg (fs.length - (j + 1))
      case measure => have := HLT.out; omega
      case rel => exact ⟨j + 1, HLT.out, Nat.le_refl _, by rw [HKZ.out], HB3⟩
    ·have hltz : ¬ (j : Int) < (fs.length : Int) := by omega
     go_wp2
     go_ret
     exact ⟨rfl, (HB.out).hb⟩
end Go.Proofs.YthflpbgloeimfaaGreatDoor.H
namespace Go.Proofs.YthflpbgloeimfaaGreatDoor.H
open Go.RowKit Go.Proofs.YthflpbgloeimfaaGreatDoorW.PrintWords Go.Proofs.YthflpbgloeimfaaGreatDoorW.PrintLast Go.Proofs.YthflpbgloeimfaaGreatDoorW.PrintMore
open Go.Proofs.YthflpbgloeimfaaGreatDoor.Q (S47 k47 rd_T47 z47 at_T47 S50 k50 rd_T50 z50 at_T50 S52 k52 rd_T52 at_T52 z52 S71 k71 rd_T71 at_T71 eqA71)
attribute [local go_sem high] eqA71
set_option linter.unusedVariables false
set_option linter.unusedSimpArgs false
def eqL {α : Type} (p : α → α → Bool) : List α → List α → Bool
 | [], [] => true
 | a :: r, b :: s => p a b && eqL p r s
 | _, _ => false
theorem eqL_len {α : Type} {p : α → α → Bool} : ∀ {l m : List α}, l.length ≠ m.length → eqL p l m = false
 | [], [], h => absurd rfl h
 | [], b :: s, _ => rfl
 | a :: r, [], _ => rfl
 | a :: r, b :: s, h => by rw [eqL, eqL_len (l := r) (m := s) (by simpa using h), Bool.and_false]
theorem eqL_bad {α : Type} {p : α → α → Bool} : ∀ {l m : List α} {j : Nat} (h1 : j < l.length) (h2 : j < m.length), p l[j] m[j] = false → eqL p l m = false
 | a :: r, b :: s, 0, _, _, h => by simp only [List.getElem_cons_zero] at h; rw [eqL, h, Bool.false_and]
 | a :: r, b :: s, j + 1, h1, h2, h => by
  rw [eqL, eqL_bad (l := r) (m := s) (j := j) (by simpa using h1) (by simpa using h2) (by simpa using h), Bool.and_false]
 | [], _, _, h1, _, _ => by simp at h1
 | _ :: _, [], _, _, h2, _ => by simp at h2
theorem eqL_all {α : Type} {p : α → α → Bool} : ∀ {l m : List α}, l.length = m.length → (∀ (j : Nat) (h1 : j < l.length) (h2 : j < m.length), p l[j] m[j] = true) → eqL p l m = true
 | [], [], _, _ => rfl
 | [], b :: s, h, _ => by simp at h
 | a :: r, [], h, _ => by simp at h
 | a :: r, b :: s, h, g => by
  have h0 := g 0 (by simp) (by simp)
  simp only [List.getElem_cons_zero] at h0
  rw [eqL, h0, Bool.true_and]
  exact eqL_all (by simpa using h) fun j h1 h2 => by
   have := g (j + 1) (by simpa using h1) (by simpa using h2)
   simpa using this
def symE (x y : S71) : Bool := x.f0.toList == y.f0.toList && (x.f1 == y.f1)
theorem symE_not (x y : S71) : symE x y = !((!x.f0.toList == y.f0.toList) || (!x.f1 == y.f1)) := by
 unfold symE
 rw [Bool.not_or, Bool.not_not, Bool.not_not]
def funE (f g : S52) : Bool := f.f0.toList == g.f0.toList && sE f.f1 g.f1 && tE f.f2 g.f2
def eqS (sy : List S71) (fs : List S52) (ty : List S71) (gs : List S52) : Bool := eqL symE sy ty && eqL funE fs gs
theorem eqS_y {sy ty : List S71} {fs gs : List S52} (h : eqL symE sy ty = false) : eqS sy fs ty gs = false := by unfold eqS; rw [h]; rfl
theorem upto_succ {P : Nat → Prop} {j : Nat} (h : ∀ i, i < j → P i) (hj : P j) : ∀ i, i < j + 1 → P i := fun i hi => by
 rcases Nat.lt_or_ge i j with h2 | h2
 ·exact h i h2
 ·rw [show i = j by omega]; exact hj
end Go.Proofs.YthflpbgloeimfaaGreatDoor.H
