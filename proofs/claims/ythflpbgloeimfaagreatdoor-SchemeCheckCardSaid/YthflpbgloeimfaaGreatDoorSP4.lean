/- What schemeCheck_calls, schemePut_calls, schemeOrder_calls, handed_and_shaped, own, laidOut, laid7, mx_of_shaped, arg_scheme needs, out of my texts, by a program (slim.py). -/
import Derived.Test.YthflpbgloeimfaaGreatDoorSP3
namespace Go.Proofs.YthflpbgloeimfaaGreatDoor.H
open Go.RowKit Go.Proofs.YthflpbgloeimfaaGreatDoorW.PrintWords Go.Proofs.YthflpbgloeimfaaGreatDoorW.PrintLast Go.Proofs.YthflpbgloeimfaaGreatDoorW.PrintMore
open Go.Proofs.YthflpbgloeimfaaGreatDoor.Q (S47 k47 rd_T47 z47 at_T47 S50 k50 rd_T50 z50 at_T50 S52 k52 rd_T52 at_T52 z52 S71 k71 rd_T71 at_T71)
set_option linter.unusedVariables false
set_option linter.unusedSimpArgs false
def exL : List UInt8 := [115, 121, 109, 98, 111, 108, 32, 97, 32, 50, 10, 115, 121, 109, 98, 111, 108, 32, 98, 32, 49, 10, 115, 121, 109, 98, 111, 108, 32, 99, 32, 48, 10, 102, 117, 110, 32, 115, 32, 58, 32, 111, 32, 61, 32, 102, 32, 35, 99, 10, 102, 117, 110, 32, 102, 32, 58, 32, 111, 32, 62, 32, 111, 32, 61, 32, 35, 97, 32, 36, 48, 32, 40, 102, 32, 40, 35, 98, 32, 36, 48, 41, 41, 10]
def sy0 : List S71 := [⟨⟨#[97]⟩, 2⟩, ⟨⟨#[98]⟩, 1⟩, ⟨⟨#[99]⟩, 0⟩]
def fs0 : List S52 := [⟨⟨#[115]⟩, ⟨[]⟩, ⟨1, 1, [⟨2, 2, []⟩]⟩⟩, ⟨⟨#[102]⟩, ⟨[⟨[]⟩]⟩, ⟨2, 0, [⟨0, 0, []⟩, ⟨1, 1, [⟨2, 1, [⟨0, 0, []⟩]⟩]⟩]⟩⟩]
theorem ex_get : getR3 ⟨exL.toArray⟩ = (0, sy0, fs0) := by kernel_rfl
theorem ex_put : putV sy0 fs0 = (exL, 0) := by kernel_rfl
theorem ex_ord : ordV sy0 fs0 = (1, 0) := by kernel_rfl
theorem ex_sch : schV sy0 fs0 = 0 := by kernel_rfl
theorem get0_calls (w : World) (hm : MX w) : Calls Tryz.prog 19 #[.string ⟨exL.toArray⟩] w fun E w' => ∃ A1 c1 A2 c2, E = .returned (.tuple #[.agg #[.slice A1 sy0.length c1, .slice A2 fs0.length c2], .int .i64 0]) ∧ Kd.C k71 w' A1 sy0.length sy0 ∧ Kd.C k52 w' A2 fs0.length fs0 ∧ Below w.heap.size w w' := by
  refine (get3_calls ⟨exL.toArray⟩ w hm).mono ?_
  intro E w' h
  unfold GetE3 at h
  rw [ex_get] at h
  obtain ⟨A1, c1, A2, c2, rfl, h1, h2, h3, h4, h5⟩ := h
  exact ⟨A1, c1, A2, c2, rfl, h1, h3, h5⟩
theorem put0_calls (A1 : Option Addr) (c1 : Nat) (A2 : Option Addr) (c2 : Nat) (w : World) (hS : Kd.C k71 w A1 sy0.length sy0) (hF : Kd.C k52 w A2 fs0.length fs0) :
    Calls Tryz.prog 17 #[.agg #[.slice A1 sy0.length c1, .slice A2 fs0.length c2]] w fun E w' => E = .returned (.tuple #[.string ⟨exL.toArray⟩, .int .i64 0]) ∧ Below w.heap.size w w' := by
  refine (put_calls sy0 fs0 A1 A2 c1 c2 w hS hF).mono ?_
  intro E w' h
  unfold PutE at h
  rw [ex_put] at h
  exact h
theorem ord0_calls (A1 : Option Addr) (c1 : Nat) (A2 : Option Addr) (c2 : Nat) (w : World) (hS : Kd.C k71 w A1 sy0.length sy0) (hF : Kd.C k52 w A2 fs0.length fs0) :
    Calls Tryz.prog 24 #[.agg #[.slice A1 sy0.length c1, .slice A2 fs0.length c2]] w fun E w' => E = .returned (.tuple #[.int .i64 1, .int .i64 0]) ∧ Below w.heap.size w w' := by
  have h := sorderS_calls sy0 fs0 A1 A2 c1 c2 w hS hF
  rw [ex_ord] at h
  exact h
theorem sch0_calls (A1 : Option Addr) (c1 : Nat) (A2 : Option Addr) (c2 : Nat) (w : World) (hS : Kd.C k71 w A1 sy0.length sy0) (hF : Kd.C k52 w A2 fs0.length fs0) :
    Calls Tryz.prog 14 #[.agg #[.slice A1 sy0.length c1, .slice A2 fs0.length c2]] w fun E w' => E = .returned (.int .i64 0) ∧ Below w.heap.size w w' := by
  have h := scheme_calls sy0 fs0 A1 A2 c1 c2 w hS hF
  rw [ex_sch] at h
  exact h
theorem sy0_len : sy0.length = 3 := rfl
theorem fs0_len : fs0.length = 2 := rfl
theorem exL_list : (⟨exL.toArray⟩ : ByteArray).toList = exL := by rw [Lib.toList_data]
set_option maxHeartbeats 16000000 in
set_option maxRecDepth 100000 in
theorem alive_calls (w : World) (hm : MX w) : Calls Tryz.prog 16 #[] w fun E w' => E = .returned (.bool true) ∧ Below w.heap.size w w' := by
  have HG := Aside0.mk (get0_calls w hm)
  have HEL := Aside0.mk exL_list
  unfold exL at HG HEL
  rw [sy0_len, fs0_len] at HG
  clear hm
  go_enter Tryz.func16, Tryz.ntmps16
  go_wp2_with fail
  refine (HG.out).mono ?_
  rintro E w1 ⟨A1, c1, A2, c2, rfl, h1, h2, hb⟩
  have hba := below_alloc (Below.refl w1.heap.size w1) (.cells #[.slice A1 3 c1, .slice A2 2 c2] 25)
  have HB2 := Aside0.mk (below_then hb hb.size hba)
  have HX2 := Aside0.mk (blk_new w1 (.cells #[.slice A1 3 c1, .slice A2 2 c2] 25))
  have HS2 := Aside0.mk (Kd.C_below h1 hba)
  have HF2 := Aside0.mk (Kd.C_below h2 hba)
  clear h1 h2 hb hba HG
  go_upto_region 2 with (fail)
  generalize w1.alloc (.cells #[.slice A1 3 c1, .slice A2 2 c2] 25) = w2 at *
  generalize w1.heap.size = b1 at *
  have HK := Aside0.mk (fun (W : World) (hW : Below w2.heap.size w2 W) => (show W.cell? ⟨b1, 0, none⟩ = some (.slice A1 3 c1) ∧ W.cell? ⟨b1, 1, none⟩ = some (.slice A2 2 c2) from ⟨(blk_cell (blk_below HX2.out hW) 0).trans rfl, (blk_cell (blk_below HX2.out hW) 1).trans rfl⟩))
  have HP := Aside0.mk (put0_calls A1 c1 A2 c2 w2 HS2.out HF2.out)
  have HO := Aside0.mk (fun (W : World) (hW : Below w2.heap.size w2 W) => ord0_calls A1 c1 A2 c2 W (Kd.C_below HS2.out hW) (Kd.C_below HF2.out hW))
  have HC := Aside0.mk (fun (W : World) (hW : Below w2.heap.size w2 W) => sch0_calls A1 c1 A2 c2 W (Kd.C_below HS2.out hW) (Kd.C_below HF2.out hW))
  unfold exL at HP
  rw [sy0_len, fs0_len] at HP HO HC
  clear HS2 HF2 HX2
  obtain ⟨k0, k1⟩ := HK.out _ (Below.refl _ _)
  go_wp2_with fail
  refine (HP.out).mono ?_
  rintro E w3 ⟨rfl, hb⟩
  have HB3 := Aside0.mk hb
  clear hb k0 k1 HP
  obtain ⟨k0, k1⟩ := HK.out _ HB3.out
  go_wp2_with fail
  refine (HO.out _ HB3.out).mono ?_
  rintro E w4 ⟨rfl, hb⟩
  have HB4 := Aside0.mk (below_then HB3.out (HB3.out).size hb)
  clear hb k0 k1 HB3 HO
  obtain ⟨k0, k1⟩ := HK.out _ HB4.out
  go_wp2_with fail
  refine (HC.out _ HB4.out).mono ?_
  rintro E w5 ⟨rfl, hb⟩
  have HB5 := Aside0.mk (below_then HB4.out (HB4.out).size hb)
  clear hb k0 k1
  go_wp2
  go_ret
  exact ⟨rfl, below_then HB2.out (HB2.out).size HB5.out⟩
end Go.Proofs.YthflpbgloeimfaaGreatDoor.H
namespace Go.Proofs.YthflpbgloeimfaaGreatDoor.H
open Go.RowKit Go.Proofs.YthflpbgloeimfaaGreatDoorW.PrintWords Go.Proofs.YthflpbgloeimfaaGreatDoorW.PrintLast Go.Proofs.YthflpbgloeimfaaGreatDoorW.PrintMore
open Go.Proofs.YthflpbgloeimfaaGreatDoor.Q (S47 k47 rd_T47 z47 at_T47 S50 k50 rd_T50 z50 at_T50 S52 k52 rd_T52 at_T52 z52 S71 k71 rd_T71 at_T71)
set_option linter.unusedVariables false
set_option linter.unusedSimpArgs false
set_option maxHeartbeats 16000000 in
set_option maxRecDepth 100000 in
theorem schemeCheck_calls (sy : List S71) (fs : List S52) (A1 A2 : Option Addr) (c1 c2 : Nat) (w : World) (hS : Kd.C k71 w A1 sy.length sy) (hF : Kd.C k52 w A2 fs.length fs) (hc1 : sy.length ≤ c1) (hc2 : fs.length ≤ c2) (hm : MX w) :
    Calls Tryz.prog 3 #[.agg #[.slice A1 sy.length c1, .slice A2 fs.length c2]] w fun E w' => E = .returned (.bool true) ∧ Below w.heap.size w w' := by
  have H1 := Aside0.mk fun W (hW : Below w.heap.size w W) => scheme_calls sy fs A1 A2 c1 c2 W (Kd.C_below hS hW) (Kd.C_below hF hW)
  have H2 := Aside0.mk fun W (hW : Below w.heap.size w W) => rcheck_calls sy fs A1 A2 c1 c2 W (Kd.C_below hS hW) (Kd.C_below hF hW) hc1 hc2
  have HAL := Aside0.mk fun W (hW : Below w.heap.size w W) => alive_calls W (hm.below hW)
  have HS := Aside0.mk (CB.mk (below_alloc (Below.refl w.heap.size w) (.cells #[.slice A1 sy.length c1, .slice A2 fs.length c2] 25)) (blk_new w (.cells #[.slice A1 sy.length c1, .slice A2 fs.length c2] 25)))
  clear hS hF hc1 hc2 hm
  generalize schV sy fs = v at *
  go_enter Tryz.func3, Tryz.ntmps3
  go_upto_region 1 with (fail)
  generalize w.alloc (.cells #[.slice A1 sy.length c1, .slice A2 fs.length c2] 25) = W1 at *
  have HS0 := Aside0.mk ((HS.out).below (below_drew (Below.refl _ _)))
  go_region_held3 (fun w' => w'.cell? ⟨w.heap.size, 0, none⟩ = some (.slice A1 sy.length c1) ∧ w'.cell? ⟨w.heap.size, 1, none⟩ = some (.slice A2 fs.length c2))
    (first | exact (HSc.out).cells | exact (HSb.out).cells | exact (HSa.out).cells | exact (HS0.out).cells | exact (HS.out).cells | fail)
    (first | (go_at_call 14; (with_reducible refine (H1.out _ (HS0.out).hb).mono ?_); rintro E w2 ⟨rfl, hb⟩; have HSa := Aside0.mk ((HS0.out).below hb); clear hb) | (go_at_call 15; (with_reducible refine (H2.out _ (HSa.out).hb).mono ?_); rintro E w3 ⟨rfl, hb⟩; have HSb := Aside0.mk ((HSa.out).below hb); clear hb) | (go_at_call 16; (with_reducible refine (HAL.out _ (HSb.out).hb).mono ?_); rintro E w6 ⟨rfl, hb⟩; have HSc := Aside0.mk ((HSb.out).below hb); clear hb) | fail)
  go_wp2
  go_ret
  exact ⟨rfl, (HSc.out).hb⟩
end Go.Proofs.YthflpbgloeimfaaGreatDoor.H
namespace Go.Proofs.YthflpbgloeimfaaGreatDoor.H
open Go.RowKit Go.Proofs.YthflpbgloeimfaaGreatDoorW.PrintWords Go.Proofs.YthflpbgloeimfaaGreatDoorW.PrintLast Go.Proofs.YthflpbgloeimfaaGreatDoorW.PrintMore
open Go.Proofs.YthflpbgloeimfaaGreatDoor.Q (S47 k47 rd_T47 z47 at_T47 S50 k50 rd_T50 z50 at_T50 S52 k52 rd_T52 at_T52 z52 S71 k71 rd_T71 at_T71)
set_option linter.unusedVariables false
set_option linter.unusedSimpArgs false
theorem str_eqL {a : ByteArray} {l : List UInt8} (h : a.data.toList = l) : Value.string a = Value.string ⟨l.toArray⟩ := by
  rcases a with ⟨⟨a⟩⟩; simp at h; rw [h]
set_option maxHeartbeats 8000000 in
set_option maxRecDepth 100000 in
theorem rtext_calls (N : Nat) : ∀ (t : S47), sN t ≤ N → N ≤ 100000 → ∀ (A : Option Addr) (c : Nat) (W : World), Kd.C k47 W A t.f0.length t.f0 → t.f0.length ≤ c →
    Calls Tryz.prog 52 #[.agg #[.slice A t.f0.length c]] W fun E W' => E = .returned (.string ⟨(srtS t).toArray⟩) ∧ Below W.heap.size W W' := by
  induction N with
  | zero => intro t h; have := sN_pos t; omega
  | succ N ih =>
    intro t hN hM A c W hC hc
    obtain ⟨l⟩ := t
    rw [sN] at hN
    have IH := Aside0.mk ih
    have HD := Aside0.mk (show sNL l ≤ N ∧ N + 1 ≤ 100000 from ⟨by omega, hM⟩)
    have HLEN := Aside0.mk (show l.length ≤ 100000 from by have := sLen_le (l := l); omega)
    have HB := Aside0.mk (below_alloc (Below.refl W.heap.size W) (.cells #[.slice A l.length c] 47))
    have HC := Aside0.mk (Kd.C_below hC HB.out)
    have HX := Aside0.mk (blk_new W (.cells #[.slice A l.length c] 47))
    clear ih hC hN hM hc
    go_enter Tryz.func52, Tryz.ntmps52
    go_upto_region 1 with (fail)
    generalize (W.alloc (.cells #[.slice A l.length c] 47)) = W1 at *
    have p0 : W1.cell? ⟨W.heap.size, 0, none⟩ = some (.slice A l.length c) := (blk_cell HX.out 0).trans rfl
    go_wp2
    clear p0
    go_loopg [9, 3] l.length (fun gg v9 v3 wi => ∃ (j : Nat) (acc : List UInt8), j ≤ l.length ∧ l.length - j ≤ gg ∧ v9 = .int .i64 j ∧ v3 = .string ⟨acc.toArray⟩ ∧ Aside0 (acc = srtSL (l.take j)) ∧ Aside0 (Below W.heap.size W wi) ∧ Aside0 (Kd.C k47 wi A l.length l))
    case atStart => exact ⟨0, [], by omega, by omega, rfl, rfl, ⟨by rw [List.take_zero, srtSL]⟩, HB, HC⟩
    case round =>
      clear HB HX HC
      obtain ⟨j, acc, hj, hgg, rfl, rfl, HA, HB, HC⟩ := hrel
      have hal : acc.length ≤ 600000 := by
        have h1 := srtSL_len (l.take j)
        have h2 := sNL_take l j
        have := (HD.out).1
        have := (HD.out).2
        rw [HA.out]
        omega
      by_cases hlt : j < l.length
      · have hltz : (j : Int) < (l.length : Int) := by omega
        have HLT := Aside0.mk hlt
        obtain ⟨ad, A1, c1, e, hx0, hl1, hC1⟩ := at_T47 HC.out (j : Int) (by omega) hltz
        subst e
        rw [rdS_at hlt] at hx0 hl1 hC1
        rw [Int.toNat_natCast] at hx0
        have HS := Aside0.mk (show srtSL (l.take (j + 1)) = acc ++ (wrapS l[j] (srtS l[j]) ++ [32, 62, 32]) by rw [takeS hlt, srtSL_snoc, HA.out])
        have HJ := Aside0.mk (show sN l[j] ≤ N from by
          have h1 := sN_mem (List.getElem_mem hlt)
          have := HD.out
          omega)
        have HKZ := Aside0.mk (show wrap64 ((j : Int) + 1) = ((j + 1 : Nat) : Int) by rw [wr_id (by omega) (by have := HLEN.out; omega)]; rfl)
        generalize l[j] = u at *
        have HC1 := Aside0.mk hC1
        have HL1 := Aside0.mk hl1
        clear hC1 hl1
        go_upto_region 5 with (fail)
        have HB5 := Aside0.mk (below_then HB.out (HB.out).size (below_alloc (Below.refl wr.heap.size wr) (.cells #[.slice A1 u.f0.length c1] 47)))
        have HC5 := Aside0.mk (Kd.C_below HC.out (below_alloc (Below.refl wr.heap.size wr) (.cells #[.slice A1 u.f0.length c1] 47)))
        have HC15 := Aside0.mk (Kd.C_below HC1.out (below_alloc (Below.refl wr.heap.size wr) (.cells #[.slice A1 u.f0.length c1] 47)))
        have HX5 := Aside0.mk (blk_new wr (.cells #[.slice A1 u.f0.length c1] 47))
        clear HB HC HC1 hx0
        generalize (wr.alloc (.cells #[.slice A1 u.f0.length c1] 47)) = w5 at *
        generalize wr.heap.size = b7 at *
        have m0 : w5.cell? ⟨b7, 0, none⟩ = some (.slice A1 u.f0.length c1) := (blk_cell HX5.out 0).trans rfl
        by_cases hz : u.f0.length = 0
        · have hzz : (u.f0.length : Int) = 0 := by omega
          have HWR := Aside0.mk (show wrapS u (srtS u) = [111] from by
            obtain ⟨v⟩ := u
            obtain rfl := List.eq_nil_of_length_eq_zero hz
            unfold wrapS; rw [if_pos (show (S47.mk []).f0.length = 0 from rfl), srtS, srtSL]; rfl)
          clear hz
          go_wp2
          go_roundg (l.length - (j + 1))
          case measure => have := HLT.out; omega
          case rel => exact ⟨j + 1, acc ++ [111, 32, 62, 32], HLT.out, Nat.le_refl _, by rw [HKZ.out], str_eqL (by simp), ⟨by rw [HS.out, HWR.out]; rfl⟩, HB5, HC5⟩
        · have hzz : ¬ (u.f0.length : Int) = 0 := by omega
          have HWR := Aside0.mk (show wrapS u (srtS u) = 40 :: (srtS u ++ [41]) from if_neg hz)
          have HWI := Aside0.mk (IH.out u HJ.out (by have := HD.out; omega) A1 c1 w5 HC15.out HL1.out)
          have hsl : (srtS u).length ≤ 600000 := by have := srtS_len u; have := HJ.out; have := HD.out; omega
          clear hz
          go_wp2_with fail
          refine (HWI.out).mono ?_
          rintro E w6 ⟨rfl, hb⟩
          have HB6 := Aside0.mk (below_then HB5.out (HB5.out).size hb)
          have HC6 := Aside0.mk (Kd.C_below HC5.out hb)
          clear hb m0 HB5 HC5 HX5 HWI
          go_wp2
          go_roundg (l.length - (j + 1))
          case measure => have := HLT.out; omega
          case rel => exact ⟨j + 1, acc ++ (40 :: (srtS u ++ [41, 32, 62, 32])), HLT.out, Nat.le_refl _, by rw [HKZ.out], str_eqL (by simp), ⟨by rw [HS.out, HWR.out]; simp⟩, HB6, HC6⟩
      · have hltz : ¬ (j : Int) < (l.length : Int) := by omega
        have hje : j = l.length := by omega
        subst hje
        have HS := Aside0.mk (show srtS ⟨l⟩ = acc ++ [111] by rw [srtS, HA.out, List.take_length])
        clear hlt hj hgg
        go_wp2
        go_ret
        exact ⟨by rw [HS.out]; exact congrArg _ (str_eqL (by simp)), HB.out⟩
end Go.Proofs.YthflpbgloeimfaaGreatDoor.H
namespace Go.Proofs.YthflpbgloeimfaaGreatDoor.H
open Go.RowKit Go.Proofs.YthflpbgloeimfaaGreatDoorW.PrintWords Go.Proofs.YthflpbgloeimfaaGreatDoorW.PrintLast Go.Proofs.YthflpbgloeimfaaGreatDoorW.PrintMore
open Go.Proofs.YthflpbgloeimfaaGreatDoor.Q (S47 k47 rd_T47 z47 at_T47 S50 k50 rd_T50 z50 at_T50 S52 k52 rd_T52 at_T52 z52 S71 k71 rd_T71 at_T71)
set_option linter.unusedVariables false
set_option linter.unusedSimpArgs false
theorem numb0_calls (a : Int) (h0 : 0 ≤ a) (h1 : a < 10) (w : World) : Calls Tryz.prog 51 #[.int .i64 a] w fun e w' => e = .returned (.string ((⟨#[48, 49, 50, 51, 52, 53, 54, 55, 56, 57]⟩ : ByteArray).extract a.toNat (a + 1).toNat)) ∧ w' = w := by
  have e : wrap64 (a + 1) = a + 1 := wrap_succ h0 (by omega)
  have c2b0 : decide (a < 10) = true := decide_eq_true h1
  have c3b0 := eq_true h0
  have c3b1 : decide (0 ≤ a) = true := decide_eq_true h0
  have c4b0 := eq_true (show a ≤ wrap64 (a + 1) by omega)
  have c4b1 : decide (a ≤ wrap64 (a + 1)) = true := decide_eq_true (by omega)
  have c5b0 := eq_true (show wrap64 (a + 1) ≤ 10 by omega)
  have c5b1 : decide (wrap64 (a + 1) ≤ 10) = true := decide_eq_true (by omega)
  rw [← e]
  clear e h0 h1
  go_enter Tryz.func51, Tryz.ntmps51
  go_wp2
  go_ret
  exact ⟨by first | rfl | (simp; done) | (simp [*]; done), rfl⟩
theorem dg_small : ((List.range 10).all fun k => ((⟨#[48, 49, 50, 51, 52, 53, 54, 55, 56, 57]⟩ : ByteArray).extract k (k + 1)).data.toList == dg k) = true := by kernel_rfl
theorem dg_two : ((List.range 100).all fun k => decide (k < 10) || (dg k == dg (k / 10) ++ dg (k % 10))) = true := by kernel_rfl
theorem numb1_calls (k : Nat) (h : k < 10) (w : World) : Calls Tryz.prog 51 #[.int .i64 (k : Int)] w fun e w' => e = .returned (.string ⟨(dg k).toArray⟩) ∧ w' = w := by
  refine (numb0_calls (k : Int) (by omega) (by omega) w).mono ?_
  rintro e w' ⟨rfl, rfl⟩
  have h1 := List.all_eq_true.1 dg_small k (List.mem_range.2 h)
  exact ⟨by rw [show ((k : Int) + 1).toNat = k + 1 by omega, Int.toNat_natCast, ba_eq (eq_of_beq h1)], rfl⟩
theorem numb_calls (k : Nat) (h : k < 100) (w : World) : Calls Tryz.prog 51 #[.int .i64 (k : Int)] w fun e w' => e = .returned (.string ⟨(dg k).toArray⟩) ∧ w' = w := by
  by_cases h10 : k < 10
  · exact numb1_calls k h10 w
  · have HQ := Aside0.mk (show wrap64 ((k : Int) / 10) = ((k / 10 : Nat) : Int) by unfold wrap64; omega)
    have HRm := Aside0.mk (show Int.tmod (k : Int) 10 = ((k % 10 : Nat) : Int) by rw [Int.tmod_eq_emod_of_nonneg (by omega)]; omega)
    have H1 := Aside0.mk (fun W => numb1_calls (k / 10) (by omega) W)
    have H2 := Aside0.mk (fun W => numb1_calls (k % 10) (by omega) W)
    have hd1 : (dg (k / 10)).length ≤ 2 := dg_len (by omega)
    have hd2 : (dg (k % 10)).length ≤ 2 := dg_len (by omega)
    have c2b0 : decide ((k : Int) < 10) = false := decide_eq_false (by omega)
    have e : dg k = dg (k / 10) ++ dg (k % 10) := by
      have h1 := List.all_eq_true.1 dg_two k (List.mem_range.2 h)
      rw [decide_eq_false h10, Bool.false_or] at h1
      exact eq_of_beq h1
    rw [e]
    clear e h h10
    go_enter Tryz.func51, Tryz.ntmps51
    go_wp2_with fail
    rw [HQ.out]
    refine (H1.out _).mono ?_
    rintro E W ⟨rfl, rfl⟩
    go_wp2_with fail
    first | rw [HRm.out] | rw [show ((k : Int) % 10) = ((k % 10 : Nat) : Int) by omega] | skip
    refine (H2.out _).mono ?_
    rintro E W ⟨rfl, rfl⟩
    go_wp2
    go_ret
    exact ⟨by first | rfl | (simp; done) | (congr 3; apply ByteArray.ext; simp), rfl⟩
theorem rnumber_calls (r : Int) (h0 : 0 ≤ r) (h1 : r < 100) (w : World) : Calls Tryz.prog 51 #[.int .i64 r] w fun e w' => e = .returned (.string ⟨(dg r.toNat).toArray⟩) ∧ w' = w := by
  obtain ⟨k, rfl⟩ := Int.eq_ofNat_of_zero_le h0
  exact numb_calls k (by omega) w
structure TR (W : World) (s1 s2 : Value) (x y z : Value) (W1 : World) : Prop where
  hb : Below W.heap.size W W1
  a : W1.heap[W.heap.size]? = some (.cells #[s1, s2] 25 (0, 0))
  b : W1.heap[W.heap.size + 1]? = some (.cells #[x, y, z] 50 (0, 0))
theorem TR.below {W W1 W2 : World} {s1 s2 x y z : Value} (h : TR W s1 s2 x y z W1) (hb : Below W1.heap.size W1 W2) : TR W s1 s2 x y z W2 := ⟨below_then h.hb h.hb.size hb, blk_below h.a hb, blk_below h.b hb⟩
theorem TR.cells {W W1 : World} {s1 s2 x y z : Value} (h : TR W s1 s2 x y z W1) : (W1.cell? ⟨W.heap.size, 0, none⟩ = some s1 ∧ W1.cell? ⟨W.heap.size, 1, none⟩ = some s2) ∧ W1.cell? ⟨W.heap.size + 1, 0, none⟩ = some x ∧ W1.cell? ⟨W.heap.size + 1, 1, none⟩ = some y ∧ W1.cell? ⟨W.heap.size + 1, 2, none⟩ = some z :=
  ⟨⟨(blk_cell h.a 0).trans rfl, (blk_cell h.a 1).trans rfl⟩, (blk_cell h.b 0).trans rfl, (blk_cell h.b 1).trans rfl, (blk_cell h.b 2).trans rfl⟩
theorem str_of (s : ByteArray) : Value.string s = Value.string ⟨s.data.toList.toArray⟩ := str_eqL rfl
set_option maxHeartbeats 16000000 in
set_option maxRecDepth 100000 in
theorem rterm_calls (sy : List S71) (fs : List S52) (A1 A2 : Option Addr) (c1 c2 np : Nat) (w0 : World) (h1 : Kd.C k71 w0 A1 sy.length sy) (h2 : Kd.C k52 w0 A2 fs.length fs) (hy : ∀ x ∈ sy, x.f0.size ≤ 24) (hf : ∀ f ∈ fs, f.f0.size ≤ 24) (hp : np ≤ 100) (N : Nat) :
    ∀ (t : S50), tN t ≤ N → N ≤ 10000 → tIn sy.length fs.length np t → ∀ (A : Option Addr) (c : Nat) (W : World), Kd.C k50 w0 A t.f2.length t.f2 → t.f2.length ≤ c → Below w0.heap.size w0 W →
    Calls Tryz.prog 53 #[.agg #[.slice A1 sy.length c1, .slice A2 fs.length c2], .agg #[.int .i64 t.f0, .int .i64 t.f1, .slice A t.f2.length c]] W fun E W' => E = .returned (.string ⟨(trmS (hdS sy fs) t).toArray⟩) ∧ Below W.heap.size W W' := by
  induction N with
  | zero => intro t h; have := tN_pos t; omega
  | succ N ih =>
    intro t hN hM hin A c W hC hc hB
    obtain ⟨k, n, l⟩ := t
    rw [tN] at hN
    rw [tIn] at hin
    have HHL := Aside0.mk (hdS_len hy hf hp hin.1)
    have HIN := Aside0.mk hin.1
    have HTL := Aside0.mk (fun j => trmSL_len hy hf hp (l.take j) (fun a ha => tInL_mem hin.2 (List.mem_of_mem_take ha)))
    have HTI := Aside0.mk (fun (a : S50) (ha : a ∈ l) => (tInL_mem hin.2 ha))
    have HTLL := Aside0.mk (fun (a : S50) (ha : a ∈ l) => trmS_len hy hf hp _ a (Nat.le_refl _) (tInL_mem hin.2 ha))
    have H1 := Aside0.mk h1
    have H2 := Aside0.mk h2
    have HP := Aside0.mk hp
    have HC := Aside0.mk hC
    have IH := Aside0.mk ih
    have HB0 := Aside0.mk hB
    have HD := Aside0.mk (show tNL l ≤ N ∧ N + 1 ≤ 10000 from ⟨by omega, hM⟩)
    have HLEN := Aside0.mk (show l.length ≤ 10000 from by have := tLen_le (l := l); omega)
    have HW := Aside0.mk (TR.mk (below_alloc (below_alloc (Below.refl W.heap.size W) (.cells #[.slice A1 sy.length c1, .slice A2 fs.length c2] 25)) (.cells #[.int .i64 k, .int .i64 n, .slice A l.length c] 50)) (blk_alloc (blk_new W (.cells #[.slice A1 sy.length c1, .slice A2 fs.length c2] 25)) (.cells #[.int .i64 k, .int .i64 n, .slice A l.length c] 50)) (blk_at2 W _ _))
    clear h1 h2 hy hf hp hC ih hN hM hc hB hin
    show Calls Tryz.prog 53 #[.agg #[.slice A1 sy.length c1, .slice A2 fs.length c2], .agg #[.int .i64 k, .int .i64 n, .slice A l.length c]] W fun E W' => E = .returned (.string ⟨(trmS (hdS sy fs) ⟨k, n, l⟩).toArray⟩) ∧ Below W.heap.size W W'
    have HG := Aside0.mk (show trmS (hdS sy fs) ⟨k, n, l⟩ = hdS sy fs k n ++ trmSL (hdS sy fs) l by rw [trmS])
    go_enter Tryz.func53, Tryz.ntmps53
    go_upto_region 1 with (fail)
    generalize ((W.alloc (.cells #[.slice A1 sy.length c1, .slice A2 fs.length c2] 25)).alloc (.cells #[.int .i64 k, .int .i64 n, .slice A l.length c] 50)) = W1 at *
    obtain ⟨⟨p0, p1⟩, q0, q1, q2⟩ := (HW.out).cells
    go_upto_block 0 with (fail)
    go_cut [5] (fun v5 wx => v5 = .string ⟨(hdS sy fs k n).toArray⟩ ∧ wx = W1)
    case first =>
      by_cases hk0 : k = 0
      · have hn : 0 ≤ n ∧ n < 100 := by have := HIN.out; have := HP.out; omega
        have HI := Aside0.mk (fun W => rnumber_calls n hn.1 hn.2 W)
        have HHD := Aside0.mk (show hdS sy fs k n = 36 :: dg n.toNat from if_pos hk0)
        have hd : (dg n.toNat).length ≤ 2 := dg_len (by omega)
        subst hk0
        go_wp2_with fail
        refine (HI.out _).mono ?_
        rintro E W5 ⟨rfl, rfl⟩
        go_wp2
        go_meet
        exact ⟨by rw [HHD.out]; exact str_eqL (by simp), rfl⟩
      · by_cases hk1 : k = 1
        · have hn : 0 ≤ n ∧ n < (fs.length : Int) := by have := HIN.out; omega
          have HHD := Aside0.mk (show hdS sy fs k n = (rd_T52 fs n).f0.data.toList from by unfold hdS; rw [if_neg hk0, if_pos hk1])
          obtain ⟨ad, As, cs, At, ct, e, hx0, _⟩ := at_T52 H2.out n hn.1 hn.2
          subst e
          replace hx0 := (Below.cell (Below.mono (below_then HB0.out (HB0.out).size (HW.out).hb) (Nat.le_refl _)) (World.block_lt_of_cell? w0 _ hx0)).trans hx0
          have hn1 := hn.1
          have hn2 := hn.2
          subst hk1
          clear hk0
          go_wp2
          go_meet
          exact ⟨by first | (rw [HHD.out]; done) | (rw [HHD.out]; exact str_of _), rfl⟩
        · have hn : 0 ≤ n ∧ n < (sy.length : Int) := by have := HIN.out; omega
          have HHD := Aside0.mk (show hdS sy fs k n = 35 :: (rd_T71 sy n).f0.data.toList from by unfold hdS; rw [if_neg hk0, if_neg hk1])
          have HSL := Aside0.mk HHL.out
          obtain ⟨ad, e, hx0, _⟩ := at_T71 H1.out n hn.1 hn.2
          subst e
          replace hx0 := (Below.cell (Below.mono (below_then HB0.out (HB0.out).size (HW.out).hb) (Nat.le_refl _)) (World.block_lt_of_cell? w0 _ hx0)).trans hx0
          have hn1 := hn.1
          have hn2 := hn.2
          have hsz : (rd_T71 sy n).f0.size ≤ 27 := by have := HHL.out; rw [HHD.out, List.length_cons, ← Lib.size_eq] at this; omega
          have hk0z : (k == 0) = false := by simpa using hk0
          have hk1z : (k == 1) = false := by simpa using hk1
          go_wp2
          go_meet
          exact ⟨by rw [HHD.out]; exact str_eqL (by simp), rfl⟩
    case rest =>
    obtain ⟨e5, ew⟩ := hcut
    replace ew := ew.symm
    subst ew
    subst e5
    go_wp2
    clear p0 p1 q0 q1 q2
    go_loopg [36, 5] l.length (fun gg v36 v5 wi => ∃ (j : Nat) (acc : List UInt8), j ≤ l.length ∧ l.length - j ≤ gg ∧ v36 = .int .i64 j ∧ v5 = .string ⟨acc.toArray⟩ ∧ Aside0 (acc = hdS sy fs k n ++ trmSL (hdS sy fs) (l.take j)) ∧ Aside0 (TR W (.slice A1 sy.length c1) (.slice A2 fs.length c2) (.int .i64 k) (.int .i64 n) (.slice A l.length c) wi))
    case atStart => exact ⟨0, hdS sy fs k n, by omega, by omega, rfl, rfl, ⟨by rw [List.take_zero, trmSL, List.append_nil]⟩, HW⟩
    case round =>
      clear HW
      obtain ⟨j, acc, hj, hgg, rfl, rfl, HA, HW⟩ := hrel
      have hal : acc.length ≤ 400000 := by
        have h1 := HTL.out j
        have h2 := tNL_take l j
        have h3 := HHL.out
        have := HD.out
        rw [HA.out, List.length_append]
        omega
      by_cases hlt : j < l.length
      · have hltz : (j : Int) < (l.length : Int) := by omega
        have HLT := Aside0.mk hlt
        obtain ⟨ad, A9, c9, e, hx0, hx1, hx2, hl9, hC9⟩ := at_T50 HC.out (j : Int) (by omega) hltz
        subst e
        rw [rdT_at hlt] at hx0 hx1 hx2 hl9 hC9
        rw [Int.toNat_natCast] at hx0 hx1 hx2
        have HBB := Aside0.mk (below_then HB0.out (HB0.out).size (HW.out).hb)
        replace hx0 := ((HBB.out).cell (World.block_lt_of_cell? w0 _ hx0)).trans hx0
        replace hx1 := ((HBB.out).cell (World.block_lt_of_cell? w0 _ hx1)).trans hx1
        replace hx2 := ((HBB.out).cell (World.block_lt_of_cell? w0 _ hx2)).trans hx2
        have HS := Aside0.mk (show hdS sy fs k n ++ trmSL (hdS sy fs) (l.take (j + 1)) = acc ++ (32 :: wrapT l[j] (trmS (hdS sy fs) l[j])) by rw [takeS hlt, trmSL_snoc, HA.out, List.append_assoc])
        have HJ := Aside0.mk (show tN l[j] ≤ N ∧ (trmS (hdS sy fs) l[j]).length ≤ 400000 from by
          have h1 := tN_mem (List.getElem_mem hlt)
          have h5 := HTLL.out _ (List.getElem_mem hlt)
          have := HD.out
          omega)
        have HTJ := Aside0.mk (HTI.out _ (List.getElem_mem hlt))
        have HKZ := Aside0.mk (show wrap64 ((j : Int) + 1) = ((j + 1 : Nat) : Int) by rw [wr_id (by omega) (by have := HLEN.out; omega)]; rfl)
        generalize l[j] = u at *
        have HC9 := Aside0.mk hC9
        have HL9 := Aside0.mk hl9
        clear hC9 hl9
        go_upto_region 11 with (fail)
        have HW5 := Aside0.mk ((HW.out).below (below_alloc (Below.refl wr.heap.size wr) (.cells #[.int .i64 u.f0, .int .i64 u.f1, .slice A9 u.f2.length c9] 50)))
        have HX5 := Aside0.mk (blk_new wr (.cells #[.int .i64 u.f0, .int .i64 u.f1, .slice A9 u.f2.length c9] 50))
        have HBB5 := Aside0.mk (below_then HBB.out (HBB.out).size (below_alloc (Below.refl wr.heap.size wr) (.cells #[.int .i64 u.f0, .int .i64 u.f1, .slice A9 u.f2.length c9] 50)))
        clear HW HBB hx0 hx1 hx2
        generalize (wr.alloc (.cells #[.int .i64 u.f0, .int .i64 u.f1, .slice A9 u.f2.length c9] 50)) = w5 at *
        generalize wr.heap.size = b7 at *
        have m0 : w5.cell? ⟨b7, 0, none⟩ = some (.int .i64 u.f0) := (blk_cell HX5.out 0).trans rfl
        have m1 : w5.cell? ⟨b7, 1, none⟩ = some (.int .i64 u.f1) := (blk_cell HX5.out 1).trans rfl
        have m2 : w5.cell? ⟨b7, 2, none⟩ = some (.slice A9 u.f2.length c9) := (blk_cell HX5.out 2).trans rfl
        obtain ⟨⟨p0, p1⟩, _⟩ := (HW5.out).cells
        have HWI := Aside0.mk (IH.out u (HJ.out).1 (by have := HD.out; omega) HTJ.out A9 c9 w5 HC9.out HL9.out HBB5.out)
        have hsl := (HJ.out).2
        by_cases hz : u.f2.length = 0
        · have hzz : (u.f2.length : Int) = 0 := by omega
          have HWR := Aside0.mk (show wrapT u (trmS (hdS sy fs) u) = trmS (hdS sy fs) u from if_pos hz)
          clear hz
          go_wp2_with fail
          refine (HWI.out).mono ?_
          rintro E w6 ⟨rfl, hb⟩
          have HW6 := Aside0.mk ((HW5.out).below hb)
          clear hb m0 m1 m2 p0 p1 HW5 HX5 HWI
          go_wp2
          go_roundg (l.length - (j + 1))
          case measure => have := HLT.out; omega
          case rel => exact ⟨j + 1, acc ++ (32 :: trmS (hdS sy fs) u), HLT.out, Nat.le_refl _, by rw [HKZ.out], str_eqL (by simp), ⟨by rw [HS.out, HWR.out]⟩, HW6⟩
        · have hzz : ¬ (u.f2.length : Int) = 0 := by omega
          have HWR := Aside0.mk (show wrapT u (trmS (hdS sy fs) u) = 40 :: (trmS (hdS sy fs) u ++ [41]) from if_neg hz)
          clear hz
          go_wp2_with fail
          refine (HWI.out).mono ?_
          rintro E w6 ⟨rfl, hb⟩
          have HW6 := Aside0.mk ((HW5.out).below hb)
          clear hb m0 m1 m2 p0 p1 HW5 HX5 HWI
          go_wp2
          go_roundg (l.length - (j + 1))
          case measure => have := HLT.out; omega
          case rel => exact ⟨j + 1, acc ++ (32 :: 40 :: (trmS (hdS sy fs) u ++ [41])), HLT.out, Nat.le_refl _, by rw [HKZ.out], str_eqL (by simp), ⟨by rw [HS.out, HWR.out]⟩, HW6⟩
      · have hltz : ¬ (j : Int) < (l.length : Int) := by omega
        have hje : j = l.length := by omega
        subst hje
        have HS := Aside0.mk (show trmS (hdS sy fs) ⟨k, n, l⟩ = acc by rw [HG.out, HA.out, List.take_length])
        clear hlt hj hgg
        go_wp2
        go_ret
        exact ⟨by rw [HS.out]; rfl, (HW.out).hb⟩
end Go.Proofs.YthflpbgloeimfaaGreatDoor.H
namespace Go.Proofs.YthflpbgloeimfaaGreatDoor.H
open Go.RowKit Go.Proofs.YthflpbgloeimfaaGreatDoorW.PrintWords Go.Proofs.YthflpbgloeimfaaGreatDoorW.PrintLast Go.Proofs.YthflpbgloeimfaaGreatDoorW.PrintMore
open Go.Proofs.YthflpbgloeimfaaGreatDoor.Q (S47 k47 rd_T47 z47 at_T47 S50 k50 rd_T50 z50 at_T50 S52 k52 rd_T52 at_T52 z52 S71 k71 rd_T71 at_T71)
set_option linter.unusedVariables false
set_option linter.unusedSimpArgs false
set_option maxHeartbeats 16000000 in
set_option maxRecDepth 100000 in
theorem rput_calls (sy : List S71) (fs : List S52) (A1 A2 : Option Addr) (c1 c2 : Nat) (w : World) (hS : Kd.C k71 w A1 sy.length sy) (hF : Kd.C k52 w A2 fs.length fs) (hc1 : sy.length ≤ c1) (hc2 : fs.length ≤ c2) :
    Calls Tryz.prog 18 #[.agg #[.slice A1 sy.length c1, .slice A2 fs.length c2]] w (PutE (putV sy fs) w) := by
  have HS := Aside0.mk hS
  have HF := Aside0.mk hF
  have HP := Aside0.mk (CB.mk (below_alloc (Below.refl w.heap.size w) (.cells #[.slice A1 sy.length c1, .slice A2 fs.length c2] 25)) (blk_new w (.cells #[.slice A1 sy.length c1, .slice A2 fs.length c2] 25)))
  have HCK := Aside0.mk (fun (W : World) (hW : Below w.heap.size w W) => risch_calls sy fs A1 A2 c1 c2 W (Kd.C_below hS hW) (Kd.C_below hF hW) hc1 hc2)
  clear hS hF hc1 hc2
  go_enter Tryz.func18, Tryz.ntmps18
  go_upto_region 1 with (fail)
  generalize w.alloc (.cells #[.slice A1 sy.length c1, .slice A2 fs.length c2] 25) = W1 at *
  obtain ⟨p0, p1⟩ := (HP.out).cells
  go_wp2_with fail
  refine (HCK.out W1 (HP.out).hb).mono ?_
  rintro E w2 ⟨rfl, hb⟩
  have HP2 := Aside0.mk ((HP.out).below hb)
  clear hb p0 p1 HP HCK
  cases q : schB sy fs with
  | false =>
    have HV := Aside0.mk (show putV sy fs = ([], 7) by unfold putV; rw [q]; rfl)
    clear q
    go_wp2
    go_ret2
    exact ⟨by rw [HV.out]; rfl, (HP2.out).hb⟩
  | true =>
  have HPV := Aside0.mk (show putV sy fs = if 65536 < (putL sy fs).length then ([], 3) else (putL sy fs, 0) by unfold putV; rw [q]; rfl)
  have HOK := Aside0.mk (scOk q)
  have HLN := Aside0.mk (putL_len (scOk q))
  have HFL := Aside0.mk (fun f hf => funL_len (scOk q) (f := f) hf)
  clear q
  obtain ⟨p0, p1⟩ := (HP2.out).cells
  go_wp2
  clear p0 p1
  go_loopg [15, 4] sy.length (fun gg v15 v4 wi => ∃ (j : Nat) (acc : List UInt8), j ≤ sy.length ∧ sy.length - j ≤ gg ∧ v15 = .int .i64 j ∧ v4 = .string ⟨acc.toArray⟩ ∧ Aside0 (CB w wi (.slice A1 sy.length c1) (.slice A2 fs.length c2)) ∧ Aside0 (acc ++ ((sy.drop j).flatMap symL ++ fs.flatMap (funL sy fs)) = putL sy fs))
  case atStart => exact ⟨0, [], by omega, by omega, rfl, rfl, HP2, ⟨rfl⟩⟩
  case round =>
    clear HP2
    obtain ⟨j, acc, hj, hgg, rfl, rfl, HX, HA⟩ := hrel
    have hal : acc.length ≤ 1000000 := by
      have h1 := HLN.out
      rw [← HA.out, List.length_append] at h1
      omega
    by_cases hlt : j < sy.length
    · have hltz : (j : Int) < (sy.length : Int) := by omega
      have HLT := Aside0.mk hlt
      obtain ⟨ad, e, hx0, hx1⟩ := at_T71 HS.out (j : Int) (by omega) hltz
      subst e
      rw [rdY_at hlt] at hx0 hx1
      rw [Int.toNat_natCast] at hx0 hx1
      replace hx0 := ((HX.out).hb.cell (World.block_lt_of_cell? w _ hx0)).trans hx0
      replace hx1 := ((HX.out).hb.cell (World.block_lt_of_cell? w _ hx1)).trans hx1
      have HFD := Aside0.mk (flatMap_drop (g := symL) hlt)
      have HSM := Aside0.mk ((HOK.out).sym _ (List.getElem_mem hlt))
      have HKZ := Aside0.mk (show wrap64 ((j : Int) + 1) = ((j + 1 : Nat) : Int) by rw [wr_id (by omega) (by have := (HOK.out).ny; omega)]; rfl)
      generalize sy[j] = u at *
      go_upto_region 7 with (fail)
      have HX5 := Aside0.mk (blk_new wr (.cells #[.string u.f0, .int .i64 u.f1] 71))
      have HP5 := Aside0.mk ((HX.out).below (below_alloc (Below.refl wr.heap.size wr) (.cells #[.string u.f0, .int .i64 u.f1] 71)))
      clear hx0 hx1 HX
      generalize (wr.alloc (.cells #[.string u.f0, .int .i64 u.f1] 71)) = w5 at *
      generalize wr.heap.size = b7 at *
      have m0 : w5.cell? ⟨b7, 0, none⟩ = some (.string u.f0) := (blk_cell HX5.out 0).trans rfl
      have m1 : w5.cell? ⟨b7, 1, none⟩ = some (.int .i64 u.f1) := (blk_cell HX5.out 1).trans rfl
      have HI := Aside0.mk (fun W => rnumber_calls u.f1 (HSM.out).2.1 (by have := (HSM.out).2.2; omega) W)
      have hsz : u.f0.size ≤ 24 := (HSM.out).1
      have hd : (dg u.f1.toNat).length ≤ 2 := dg_len (by have := (HSM.out).2.1; have := (HSM.out).2.2; omega)
      refine wp_region_still_tail 11 (by kernel_rfl) (by kernel_rfl) ?_
      simp only [List.take_succ_cons, List.take_zero, List.drop_succ_cons, List.drop_zero]
      repeat (refine wpStill_step (fun K hK => ?_); go_simp; (first | refine hK _ ?_ | (rw [if_neg (by omega)]; go_simp; refine hK _ ?_)); clear hK K)
      still_call (HI.out _)
      repeat (refine wpStill_step (fun K hK => ?_); go_simp; (first | refine hK _ ?_ | (rw [if_neg (by omega)]; go_simp; refine hK _ ?_)); clear hK K)
      refine wpStill_nil ?_
      change wpList _ _ _ _ _ w5.drew
      have HP6 := Aside0.mk ((HP5.out).below (below_drew (Below.refl _ _)))
      clear m0 m1 HP5 HI
      generalize w5.drew = w6 at *
      have HA6 := Aside0.mk (show (acc ++ symL u) ++ ((sy.drop (j + 1)).flatMap symL ++ fs.flatMap (funL sy fs)) = putL sy fs by rw [← HA.out, HFD.out]; simp)
      clear hd hsz hal
      go_wp2
      go_roundg (sy.length - (j + 1))
      case measure => have := HLT.out; omega
      case rel => exact ⟨j + 1, acc ++ symL u, HLT.out, Nat.le_refl _, by rw [HKZ.out], str_eqL (by unfold symL; simp), HP6, HA6⟩
    · have hltz : ¬ (j : Int) < (sy.length : Int) := by omega
      have hje : j = sy.length := by omega
      subst hje
      have HA2 := Aside0.mk (show acc ++ fs.flatMap (funL sy fs) = putL sy fs by rw [← HA.out, List.drop_length]; rfl)
      obtain ⟨p0, p1⟩ := (HX.out).cells
      clear hal hlt hj hgg
      go_wp2
      clear p0 p1 HA
      go_loopg [34, 4] fs.length (fun gg v34 v4 wi => ∃ (j : Nat) (acc : List UInt8), j ≤ fs.length ∧ fs.length - j ≤ gg ∧ v34 = .int .i64 j ∧ v4 = .string ⟨acc.toArray⟩ ∧ Aside0 (CB w wi (.slice A1 sy.length c1) (.slice A2 fs.length c2)) ∧ Aside0 (acc ++ (fs.drop j).flatMap (funL sy fs) = putL sy fs))
      case atStart => exact ⟨0, acc, by omega, by omega, rfl, rfl, HX, HA2⟩
      case round =>
        clear HX HA2
        obtain ⟨j, acc, hj, hgg, rfl, rfl, HX, HA⟩ := hrel
        have hal : acc.length ≤ 1000000 := by
          have h1 := HLN.out
          rw [← HA.out, List.length_append] at h1
          omega
        by_cases hlt : j < fs.length
        · have hltz : (j : Int) < (fs.length : Int) := by omega
          have HLT := Aside0.mk hlt
          obtain ⟨ad, As, cs, At, ct, e, hx0, hx1, hx2, hx3, hx4, hls, hCs, hlt4, hCt⟩ := at_T52 HF.out (j : Int) (by omega) hltz
          subst e
          rw [rdF_at hlt] at hx0 hx1 hx2 hx3 hx4 hls hCs hlt4 hCt
          rw [Int.toNat_natCast] at hx0 hx1 hx2 hx3 hx4
          replace hx0 := ((HX.out).hb.cell (World.block_lt_of_cell? w _ hx0)).trans hx0
          replace hx1 := ((HX.out).hb.cell (World.block_lt_of_cell? w _ hx1)).trans hx1
          replace hx2 := ((HX.out).hb.cell (World.block_lt_of_cell? w _ hx2)).trans hx2
          replace hx3 := ((HX.out).hb.cell (World.block_lt_of_cell? w _ hx3)).trans hx3
          replace hx4 := ((HX.out).hb.cell (World.block_lt_of_cell? w _ hx4)).trans hx4
          have HFD := Aside0.mk (flatMap_drop (g := funL sy fs) hlt)
          have HNM := Aside0.mk ((HOK.out).fnm _ (List.getElem_mem hlt))
          have HSR := Aside0.mk ((HOK.out).srt _ (List.getElem_mem hlt))
          have HBD := Aside0.mk ((HOK.out).bod _ (List.getElem_mem hlt))
          have HFN := Aside0.mk (HFL.out _ (List.getElem_mem hlt))
          have HKZ := Aside0.mk (show wrap64 ((j : Int) + 1) = ((j + 1 : Nat) : Int) by rw [wr_id (by omega) (by have := (HOK.out).nf; omega)]; rfl)
          have HCs := Aside0.mk hCs
          have HLs := Aside0.mk hls
          have HCt := Aside0.mk hCt
          have HLt := Aside0.mk hlt4
          clear hCs hls hlt4 hCt
          generalize fs[j] = f at *
          go_upto_region 12 with (fail)
          have HX5 := Aside0.mk (blk_new wr (.cells #[.string f.f0, .slice As f.f1.f0.length cs, .int .i64 f.f2.f0, .int .i64 f.f2.f1, .slice At f.f2.f2.length ct] 52))
          have HP5 := Aside0.mk ((HX.out).below (below_alloc (Below.refl wr.heap.size wr) (.cells #[.string f.f0, .slice As f.f1.f0.length cs, .int .i64 f.f2.f0, .int .i64 f.f2.f1, .slice At f.f2.f2.length ct] 52)))
          clear hx0 hx1 hx2 hx3 hx4 HX
          generalize (wr.alloc (.cells #[.string f.f0, .slice As f.f1.f0.length cs, .int .i64 f.f2.f0, .int .i64 f.f2.f1, .slice At f.f2.f2.length ct] 52)) = w5 at *
          generalize wr.heap.size = b7 at *
          have HK := Aside0.mk (fun (W : World) (hW : Below w5.heap.size w5 W) => (show (W.cell? ⟨w.heap.size, 0, none⟩ = some (.slice A1 sy.length c1) ∧ W.cell? ⟨w.heap.size, 1, none⟩ = some (.slice (some ad) fs.length c2)) ∧ W.cell? ⟨b7, 0, none⟩ = some (.string f.f0) ∧ W.cell? ⟨b7, 1, none⟩ = some (.slice As f.f1.f0.length cs) ∧ W.cell? ⟨b7, 2, none⟩ = some (.int .i64 f.f2.f0) ∧ W.cell? ⟨b7, 3, none⟩ = some (.int .i64 f.f2.f1) ∧ W.cell? ⟨b7, 4, none⟩ = some (.slice At f.f2.f2.length ct) from
            ⟨((HP5.out).below hW).cells, (blk_cell (blk_below HX5.out hW) 0).trans rfl, (blk_cell (blk_below HX5.out hW) 1).trans rfl, (blk_cell (blk_below HX5.out hW) 2).trans rfl, (blk_cell (blk_below HX5.out hW) 3).trans rfl, (blk_cell (blk_below HX5.out hW) 4).trans rfl⟩))
          have HT1 := Aside0.mk (fun (W : World) (hW : Below w5.heap.size w5 W) => rtext_calls (sN f.f1) f.f1 (Nat.le_refl _) (by have := srtB_N (HSR.out).1; omega) As cs W (Kd.C_below HCs.out ((HP5.out).below hW).hb) HLs.out)
          have HT2 := Aside0.mk (fun (W : World) (hW : Below w5.heap.size w5 W) => rterm_calls sy fs A1 (some ad) c1 c2 f.f1.f0.length w HS.out HF.out (fun x hx => ((HOK.out).sym x hx).1) (fun g hg => (HOK.out).fnm g hg) (by have := (HSR.out).2; omega) (tN f.f2) f.f2 (Nat.le_refl _) (by have := (HBD.out).1; omega) (HBD.out).2 At ct W HCt.out HLt.out ((HP5.out).below hW).hb)
          have hsz : f.f0.size ≤ 24 := HNM.out
          have hl1 : (srtS f.f1).length ≤ 1000 := by have := srtS_len f.f1; have := srtB_N (HSR.out).1; omega
          have hl2 : (trmS (hdS sy fs) f.f2).length ≤ 12500 := by have := HFN.out; unfold funL at this; simp only [List.length_append] at this; omega
          have hbz := And.intro hal (And.intro hsz (And.intro hl1 hl2))
          have z1 : ¬ 9223372036854775807 < acc.length + 4 := by omega
          have z2 : ¬ 9223372036854775807 < acc.length + 4 + f.f0.size := by omega
          have z3 : ¬ 9223372036854775807 < acc.length + 4 + f.f0.size + 3 := by omega
          have z4 : ¬ 9223372036854775807 < acc.length + 4 + f.f0.size + 3 + (srtS f.f1).length := by omega
          have z5 : ¬ 9223372036854775807 < acc.length + 4 + f.f0.size + 3 + (srtS f.f1).length + 3 := by omega
          have z6 : ¬ 9223372036854775807 < acc.length + 4 + f.f0.size + 3 + (srtS f.f1).length + 3 + (trmS (hdS sy fs) f.f2).length := by omega
          have z7 : ¬ 9223372036854775807 < acc.length + 4 + f.f0.size + 3 + (srtS f.f1).length + 3 + (trmS (hdS sy fs) f.f2).length + 1 := by omega
          have y3 : ¬ 9223372036854775804 < acc.length + 4 + f.f0.size := by omega
          have y5 : ¬ 9223372036854775804 < acc.length + 4 + f.f0.size + 3 + (srtS f.f1).length := by omega
          have y7 : ¬ 9223372036854775806 < acc.length + 4 + f.f0.size + 3 + (srtS f.f1).length + 3 + (trmS (hdS sy fs) f.f2).length := by omega
          have hd := below_drew (Below.refl w5.heap.size w5)
          go_region_held3 (fun w' => (w'.cell? ⟨w.heap.size, 0, none⟩ = some (.slice A1 sy.length c1) ∧ w'.cell? ⟨w.heap.size, 1, none⟩ = some (.slice (some ad) fs.length c2)) ∧ w'.cell? ⟨b7, 0, none⟩ = some (.string f.f0) ∧ w'.cell? ⟨b7, 1, none⟩ = some (.slice As f.f1.f0.length cs) ∧ w'.cell? ⟨b7, 2, none⟩ = some (.int .i64 f.f2.f0) ∧ w'.cell? ⟨b7, 3, none⟩ = some (.int .i64 f.f2.f1) ∧ w'.cell? ⟨b7, 4, none⟩ = some (.slice At f.f2.f2.length ct))
            (first | exact HK.out _ hd | exact HK.out _ hd1 | exact HK.out _ hd2 | fail)
            (first
              | (go_at_call 52; with_reducible refine (HT1.out _ hd).mono ?_; rintro E wp ⟨rfl, hbp⟩; have hd1 := below_then hd hd.size hbp; clear hbp hd)
              | (go_at_call 53; with_reducible refine (HT2.out _ hd1).mono ?_; rintro E wo ⟨rfl, hbo⟩; have hd2 := below_then hd1 hd1.size hbo; clear hbo hd1)
              | fail)
          all_goals
            have HP10 := Aside0.mk ((HP5.out).below hd2)
            have HA6 := Aside0.mk (show (acc ++ funL sy fs f) ++ (fs.drop (j + 1)).flatMap (funL sy fs) = putL sy fs by rw [← HA.out, HFD.out]; simp)
            clear hal hsz hl1 hl2 hd2 HP5 HK HT1 HT2 hbz z1 z2 z3 z4 z5 z6 z7 y3 y5 y7
            go_wp2
            go_roundg (fs.length - (j + 1))
            case measure => have := HLT.out; omega
            case rel => exact ⟨j + 1, acc ++ funL sy fs f, HLT.out, Nat.le_refl _, by rw [HKZ.out], str_eqL (by unfold funL; simp), HP10, HA6⟩
        · have hltz : ¬ (j : Int) < (fs.length : Int) := by omega
          have hje : j = fs.length := by omega
          subst hje
          have HA2 := Aside0.mk (show acc = putL sy fs by rw [← HA.out, List.drop_length]; simp)
          clear hlt hj hgg HA
          obtain ⟨s, hs⟩ : ∃ s : ByteArray, s = ⟨acc.toArray⟩ := ⟨_, rfl⟩
          have HSE := Aside0.mk (show s.data.toList = putL sy fs by rw [hs]; exact HA2.out)
          have HZ := Aside0.mk (show s.size = (putL sy fs).length by rw [Lib.size_eq, HSE.out])
          rw [← hs]
          clear hs
          by_cases hbig : 65536 < (putL sy fs).length
          · have hbz : (s.size : Int) > 65536 := by have := HZ.out; omega
            have HV := Aside0.mk (show putV sy fs = ([], 3) by rw [HPV.out, if_pos hbig])
            clear hbig
            go_wp2
            go_ret2
            exact ⟨by rw [HV.out]; rfl, (HX.out).hb⟩
          · have hbz : ¬ (s.size : Int) > 65536 := by have := HZ.out; omega
            have HV := Aside0.mk (show putV sy fs = (putL sy fs, 0) by rw [HPV.out, if_neg hbig])
            clear hbig
            go_wp2
            go_ret2
            exact ⟨by rw [HV.out]; have := ba_eq HSE.out; rw [this]; rfl, (HX.out).hb⟩
end Go.Proofs.YthflpbgloeimfaaGreatDoor.H
namespace Go.Proofs.YthflpbgloeimfaaGreatDoor.H
open Go.RowKit Go.Proofs.YthflpbgloeimfaaGreatDoorW.PrintWords Go.Proofs.YthflpbgloeimfaaGreatDoorW.PrintLast Go.Proofs.YthflpbgloeimfaaGreatDoorW.PrintMore
open Go.Proofs.YthflpbgloeimfaaGreatDoor.Q (S47 k47 rd_T47 z47 at_T47 S50 k50 rd_T50 z50 at_T50 S52 k52 rd_T52 at_T52 z52 S71 k71 rd_T71 at_T71)
set_option linter.unusedVariables false
set_option linter.unusedSimpArgs false
set_option maxHeartbeats 16000000 in
set_option maxRecDepth 100000 in
theorem schemePut_calls (sy : List S71) (fs : List S52) (A1 A2 : Option Addr) (c1 c2 : Nat) (w : World) (hS : Kd.C k71 w A1 sy.length sy) (hF : Kd.C k52 w A2 fs.length fs) (hc1 : sy.length ≤ c1) (hc2 : fs.length ≤ c2) (hm : MX w) :
    Calls Tryz.prog 4 #[.agg #[.slice A1 sy.length c1, .slice A2 fs.length c2]] w fun E w' => E = .returned (.bool true) ∧ Below w.heap.size w w' := by
  have HP := Aside0.mk fun W (hW : Below w.heap.size w W) => put_calls sy fs A1 A2 c1 c2 W (Kd.C_below hS hW) (Kd.C_below hF hW)
  have HQ := Aside0.mk fun W (hW : Below w.heap.size w W) => rput_calls sy fs A1 A2 c1 c2 W (Kd.C_below hS hW) (Kd.C_below hF hW) hc1 hc2
  have HAL := Aside0.mk fun W (hW : Below w.heap.size w W) => alive_calls W (hm.below hW)
  have HS := Aside0.mk (CB.mk (below_alloc (Below.refl w.heap.size w) (.cells #[.slice A1 sy.length c1, .slice A2 fs.length c2] 25)) (blk_new w (.cells #[.slice A1 sy.length c1, .slice A2 fs.length c2] 25)))
  clear hS hF hc1 hc2 hm
  unfold PutE at HP HQ
  go_enter Tryz.func4, Tryz.ntmps4
  go_upto_region 1 with (fail)
  generalize w.alloc (.cells #[.slice A1 sy.length c1, .slice A2 fs.length c2] 25) = W1 at *
  obtain ⟨k0, k1⟩ := (HS.out).cells
  go_wp2_with fail
  refine (HP.out _ (HS.out).hb).mono ?_
  rintro E W2 ⟨rfl, hb⟩
  have HS2 := Aside0.mk ((HS.out).below hb)
  clear hb HS HP k0 k1
  obtain ⟨k0, k1⟩ := (HS2.out).cells
  go_wp2_with fail
  refine (HQ.out _ (HS2.out).hb).mono ?_
  rintro E W3 ⟨rfl, hb⟩
  have HS3 := Aside0.mk ((HS2.out).below hb)
  clear hb HS2 HQ k0 k1
  generalize putV sy fs = p at *
  go_wp2_with fail
  refine (HAL.out _ (HS3.out).hb).mono ?_
  rintro E W4 ⟨rfl, hb⟩
  have HS4 := Aside0.mk ((HS3.out).below hb)
  clear hb HS3
  go_wp2
  go_ret
  exact ⟨rfl, (HS4.out).hb⟩
end Go.Proofs.YthflpbgloeimfaaGreatDoor.H
namespace Go.Proofs.YthflpbgloeimfaaGreatDoor.H
open Go.RowKit Go.Proofs.YthflpbgloeimfaaGreatDoorW.PrintWords Go.Proofs.YthflpbgloeimfaaGreatDoorW.PrintLast Go.Proofs.YthflpbgloeimfaaGreatDoorW.PrintMore
open Go.Proofs.YthflpbgloeimfaaGreatDoor.Q (S47 k47 rd_T47 z47 at_T47 S50 k50 rd_T50 z50 at_T50 S52 k52 rd_T52 at_T52 z52 S71 k71 rd_T71 at_T71)
set_option linter.unusedVariables false
set_option linter.unusedSimpArgs false
theorem ints_self (l : List Int) (hm : l.length ≤ 9223372036854775807) (d : Nat) : ∀ j : Nat, l.length - j = d → j ≤ l.length → Ev (fun k => Q.virgationlaw03_ints.l0 k l l (l.length : Int) (j : Int)) true := by
  induction d with
  | zero =>
    intro j hd hj
    refine ev_end fun k => ?_
    simp only [Q.virgationlaw03_ints.l0]
    rw [if_neg (by omega)]
  | succ d ih =>
    intro j hd hj
    refine ev_next (ih (j + 1) (by omega) (by omega)) fun k => ?_
    simp only [Q.virgationlaw03_ints.l0]
    rw [if_pos (by omega), if_pos (by omega), if_pos (by omega), if_pos (by omega), if_pos trivial, wrap_succ (by omega) (by omega)]
    rfl
theorem ints_calls (A : Option Addr) (c : Nat) (B : Option Addr) (c2 : Nat) (l : List Int) (w : World) (hr : Kd.C (Kd.int .i64) w A l.length l) (hc : l.length ≤ c) (hr2 : Kd.C (Kd.int .i64) w B l.length l) (hc2 : l.length ≤ c2) :
    Calls Tryz.prog 28 #[.slice A l.length c, .slice B l.length c2] w fun e w' => e = .returned (.bool true) ∧ Below w.heap.size w w' := by
  obtain ⟨k, hk⟩ := (ints_self l hr.2.1 _ 0 rfl (Nat.zero_le _)).rounds
  refine (Q.virgationlaw03_ints.calls k A c l B c2 l true w hr hc hr2 hc2 ?_).mono fun e w' h => ⟨h.1, h.2.below⟩
  unfold Q.virgationlaw03_ints.f
  rw [if_pos rfl]
  exact hk
set_option maxHeartbeats 16000000 in
set_option maxRecDepth 100000 in
theorem schemeOrder_calls (sy : List S71) (fs : List S52) (A1 A2 : Option Addr) (c1 c2 : Nat) (w : World) (hS : Kd.C k71 w A1 sy.length sy) (hF : Kd.C k52 w A2 fs.length fs) (hc1 : sy.length ≤ c1) (hc2 : fs.length ≤ c2) (hm : MX w) :
    Calls Tryz.prog 8 #[.agg #[.slice A1 sy.length c1, .slice A2 fs.length c2]] w fun E w' => E = .returned (.bool true) ∧ Below w.heap.size w w' := by
  have H1 := Aside0.mk fun W (hW : Below w.heap.size w W) => sorderS_calls sy fs A1 A2 c1 c2 W (Kd.C_below hS hW) (Kd.C_below hF hW)
  have H2 := Aside0.mk fun W (hW : Below w.heap.size w W) => rorderS_calls sy fs A1 A2 c1 c2 W (Kd.C_below hS hW) (Kd.C_below hF hW) hc1 hc2
  have H3 := Aside0.mk fun W (hW : Below w.heap.size w W) => sranksS_calls sy fs A1 A2 c1 c2 W (Kd.C_below hS hW) (Kd.C_below hF hW)
  have H4 := Aside0.mk fun W (hW : Below w.heap.size w W) => rranksS_calls sy fs A1 A2 c1 c2 W (Kd.C_below hS hW) (Kd.C_below hF hW) hc1 hc2
  have HAL := Aside0.mk fun W (hW : Below w.heap.size w W) => alive_calls W (hm.below hW)
  have HS := Aside0.mk (CB.mk (below_alloc (Below.refl w.heap.size w) (.cells #[.slice A1 sy.length c1, .slice A2 fs.length c2] 25)) (blk_new w (.cells #[.slice A1 sy.length c1, .slice A2 fs.length c2] 25)))
  clear hS hF hc1 hc2 hm
  unfold RksE at H3 H4
  go_enter Tryz.func8, Tryz.ntmps8
  go_upto_region 1 with (fail)
  generalize w.alloc (.cells #[.slice A1 sy.length c1, .slice A2 fs.length c2] 25) = W1 at *
  obtain ⟨k0, k1⟩ := (HS.out).cells
  go_wp2_with fail
  refine (H1.out _ (HS.out).hb).mono ?_
  rintro E W2 ⟨rfl, hb⟩
  have HS2 := Aside0.mk ((HS.out).below hb)
  clear hb HS H1 k0 k1
  obtain ⟨k0, k1⟩ := (HS2.out).cells
  go_wp2_with fail
  refine (H2.out _ (HS2.out).hb).mono ?_
  rintro E W3 ⟨rfl, hb⟩
  have HS3 := Aside0.mk ((HS2.out).below hb)
  clear hb HS2 H2 k0 k1
  generalize ordV sy fs = p at *
  obtain ⟨k0, k1⟩ := (HS3.out).cells
  go_wp2_with fail
  refine (H3.out _ (HS3.out).hb).mono ?_
  rintro E W4 ⟨hb, u, rfl, hu⟩
  have HS4 := Aside0.mk ((HS3.out).below hb)
  obtain ⟨A3, c3, rfl, hc3, hC3⟩ := Kd.R_reads hu
  have HU := Aside0.mk hC3
  have HUC := Aside0.mk hc3
  clear hb hu hC3 hc3 HS3 H3 k0 k1
  obtain ⟨k0, k1⟩ := (HS4.out).cells
  go_wp2_with fail
  refine (H4.out _ (HS4.out).hb).mono ?_
  rintro E W5 ⟨hb, u, rfl, hu⟩
  have HS5 := Aside0.mk ((HS4.out).below hb)
  obtain ⟨A4, c4, rfl, hc4, hC4⟩ := Kd.R_reads hu
  have HI := Aside0.mk (ints_calls A3 c3 A4 c4 (rksV sy fs).1 W5 (Kd.C_below HU.out hb) HUC.out hC4 hc4)
  clear hb hu hC4 hc4 HS4 H4 HU HUC k0 k1
  generalize rksV sy fs = q at *
  go_wp2_with fail
  refine (HI.out).mono ?_
  rintro E W6 ⟨rfl, hb⟩
  have HS6 := Aside0.mk ((HS5.out).below hb)
  clear hb HS5 HI
  go_wp2_with fail
  refine (HAL.out _ (HS6.out).hb).mono ?_
  rintro E W7 ⟨rfl, hb⟩
  have HS7 := Aside0.mk ((HS6.out).below hb)
  clear hb HS6
  go_wp2
  go_ret
  exact ⟨rfl, (HS7.out).hb⟩
end Go.Proofs.YthflpbgloeimfaaGreatDoor.H
namespace Go.Proofs.YthflpbgloeimfaaGreatDoor.H
open Go.ChangeShapes Go.WideShapes Go.ChangeAt Go.RowKit Go.Deep Go.Proofs.YthflpbgloeimfaaGreatDoorW.PrintWords Go.Proofs.YthflpbgloeimfaaGreatDoorW.PrintLast Go.Proofs.YthflpbgloeimfaaGreatDoorW.PrintMore
open Go.Proofs.YthflpbgloeimfaaGreatDoor.Q (S47 k47 S50 k50 S52 k52 S71 k71)
set_option linter.unusedVariables false
set_option linter.unusedSimpArgs false
set_option maxRecDepth 100000
def Opens {α : Type} (P : Program) (t : TypeId) (d : Kd α) (W : α → Prop) : Prop :=
  ∀ {H : Type} (enc : TypeId × Value → H) (w : World) (base : Nat) (held : Bool) (fuel : Nat) (cs : List Value) (x : DataW H × List MemPlace),
    DataW.trod enc P w base (fun _ => true) held fuel t cs = some x → ∃ a : α, d.K w a cs ∧ W a
theorem choose_list {α : Type} {p : Nat → α → Prop} {n : Nat} (h : ∀ i, i < n → ∃ y, p i y) : ∃ xs : List α, xs.length = n ∧ ∀ i y, xs[i]? = some y → p i y := by
  induction n with
  | zero => exact ⟨[], rfl, fun i y h => by simp at h⟩
  | succ n ih =>
    obtain ⟨xs, h1, h2⟩ := ih (fun i hi => h i (by omega))
    obtain ⟨y, hy⟩ := h n (by omega)
    refine ⟨xs ++ [y], by simp [h1], fun i z hz => ?_⟩
    rcases Nat.lt_or_ge i xs.length with hi | hi
    · rw [List.getElem?_append_left hi] at hz
      exact h2 i z hz
    · rw [List.getElem?_append_right hi] at hz
      have h3 : i - xs.length = 0 := by
        rcases Nat.eq_zero_or_pos (i - xs.length) with h | h
        · exact h
        · rw [List.getElem?_eq_none (by simp; omega)] at hz; cases hz
      rw [h3] at hz
      obtain rfl : y = z := by simpa using hz
      rw [show i = n from by omega]
      exact hy
theorem opens_slice {α : Type} {P : Program} {t e : TypeId} {d : Kd α} {W : α → Prop} (ht : P.underlying t = some (.slice e)) (hsz : P.cellsOf e = d.sz) (ho : Opens P e d W) : Opens P t (Kd.slice e d) (fun xs => ∀ x ∈ xs, W x) := by
  intro H enc w base held fuel cs x h
  rcases open_slice ht h with ⟨rfl, _⟩ | ⟨a, len, cap, m, n, D, Pl, rfl, _, hl, hm, hmm, _, hx⟩
  · exact ⟨[], ⟨none, 0, rfl, Nat.le_refl _, rfl, by simp, fun h0 => absurd h0 (by simp)⟩, by simp⟩
  · have hmm' : m = cap := by simpa using hmm
    have each : ∀ i, i < len → ∃ y : α, ∃ cs', w.cells? base (a.add (i * P.cellsOf e)) (P.cellsOf e) = some cs' ∧ d.K w y cs' ∧ W y := by
      intro i hi
      obtain ⟨cs', h1, h2⟩ := hx i (by omega)
      obtain ⟨y, hy, hw⟩ := ho enc w base held n cs' _ h2
      exact ⟨y, cs', h1, hy, hw⟩
    obtain ⟨xs, hxl, hxs⟩ := choose_list each
    refine ⟨xs, ⟨some a, cap, by rw [hxl], by omega, rfl, ?_, fun _ => ⟨a, rfl, fun j p hj => ?_⟩⟩, fun y hy => ?_⟩
    · have : maxLen = 9223372036854775807 := rfl
      omega
    · obtain ⟨cs', h1, h2, _⟩ := hxs j p hj
      obtain ⟨_, hlen, hcell⟩ := World.cells?_some h1
      refine ⟨cs', d.K_len h2, h2, fun i u hu => ?_⟩
      have hi : i < cs'.length := (List.getElem?_eq_some_iff.1 hu).1
      have h3 := hcell i (by omega)
      rw [Go.Deep.add_add, hsz] at h3
      rw [h3]; exact hu
    · obtain ⟨j, hj, rfl⟩ := List.getElem_of_mem hy
      obtain ⟨_, _, _, h3⟩ := hxs j _ (List.getElem?_eq_getElem hj)
      exact h3
theorem open_row {α H : Type} {enc : TypeId × Value → H} {P : Program} {t e : TypeId} {d : Kd α} {W : α → Prop} {w : World} {base fuel : Nat} {held : Bool} {v : Value} {x : DataW H × List MemPlace} (ht : P.underlying t = some (.slice e)) (hsz : P.cellsOf e = d.sz) (ho : Opens P e d W)
    (h : DataW.trod enc P w base (fun _ => true) held fuel t [v] = some x) : ∃ A c xs, v = .slice A xs.length c ∧ xs.length ≤ c ∧ d.C w A xs.length xs ∧ ∀ y ∈ xs, W y := by
  obtain ⟨xs, ⟨A, c, hv, hc, hC⟩, hW⟩ := opens_slice ht hsz ho enc w base held fuel [v] x h
  exact ⟨A, c, xs, by simpa using hv, hc, hC, hW⟩
theorem open_kidsG {α H : Type} {d : Kd α} {ts te : TypeId} (hts : Tryz.prog.underlying ts = some (.slice te)) (hsz : Tryz.prog.cellsOf te = d.sz) {enc : TypeId × Value → H} {w : World} {base fuel : Nat} {held : Bool} {cs : List Value} {x : DataW H × List MemPlace} (h : DataW.trod enc Tryz.prog w base (fun _ => true) held fuel ts cs = some x)
    (each : ∀ (fuel : Nat) (cs : List Value) (y : DataW H × List MemPlace), SizeOf.sizeOf y.1 < SizeOf.sizeOf x.1 → DataW.trod enc Tryz.prog w base (fun _ => true) held fuel te cs = some y → ∃ t : α, d.K w t cs) :
    ∃ (A : Option Addr) (c : Nat) (l : List α), cs = [.slice A l.length c] ∧ l.length ≤ c ∧ d.C w A l.length l := by
  rcases open_slice hts h with ⟨rfl, _⟩ | ⟨a, len, cap, m, n, D, Pl, rfl, _, hl, hm, hmm, hxe, hx⟩
  · exact ⟨none, 0, [], rfl, Nat.le_refl _, rfl, by simp, fun h0 => absurd h0 (by simp)⟩
  · have hmm' : m = cap := by simpa using hmm
    have hel : ∀ i, i < len → ∃ t : α, ∃ cs', w.cells? base (a.add (i * Tryz.prog.cellsOf te)) (Tryz.prog.cellsOf te) = some cs' ∧ d.K w t cs' := by
      intro i hi
      obtain ⟨cs', h1, h2⟩ := hx i (by omega)
      have hlt : SizeOf.sizeOf (D i) < SizeOf.sizeOf x.1 := by
        rw [hxe]
        have hmem : D i ∈ (List.range len).map D := List.mem_map.2 ⟨i, List.mem_range.2 hi, rfl⟩
        have := List.sizeOf_lt_of_mem hmem
        simp only [DataW.slice.sizeOf_spec]
        omega
      obtain ⟨t, ht⟩ := each n cs' _ hlt h2
      exact ⟨t, cs', h1, ht⟩
    obtain ⟨xs, hxl, hxs⟩ := choose_list hel
    refine ⟨some a, cap, xs, by rw [hxl], by omega, rfl, ?_, fun _ => ⟨a, rfl, fun j p hj => ?_⟩⟩
    · have : maxLen = 9223372036854775807 := rfl
      omega
    · obtain ⟨cs', h1, h2⟩ := hxs j p hj
      obtain ⟨_, hlen, hcell⟩ := World.cells?_some h1
      refine ⟨cs', d.K_len h2, h2, fun i u hu => ?_⟩
      have hi : i < cs'.length := (List.getElem?_eq_some_iff.1 hu).1
      have h3 := hcell i (by omega)
      rw [Go.Deep.add_add, hsz] at h3
      rw [h3]; exact hu
theorem open_srt {H : Type} {enc : TypeId × Value → H} {w : World} {base : Nat} {held : Bool} (N : Nat) : ∀ (fuel : Nat) (cs : List Value) (x : DataW H × List MemPlace), SizeOf.sizeOf x.1 ≤ N → DataW.trod enc Tryz.prog w base (fun _ => true) held fuel 47 cs = some x → ∃ t : S47, k47.K w t cs := by
  induction N with
  | zero =>
    intro fuel cs x hN
    have : 0 < SizeOf.sizeOf x.1 := by cases x.1 <;> simp <;> omega
    omega
  | succ N ih =>
    intro fuel cs x hN h
    obtain ⟨y0, n, rfl, hl, h0⟩ := trod_struct1 Tryz.underlying47 h
    have o0 : (Tryz.prog.cellsOf 43) = 1 := by kernel_rfl
    have o2 : (Tryz.prog.cellsOf 47) = 1 := by kernel_rfl
    rw [o2] at hl
    match cs, hl with
    | [c0], _ =>
      simp only [o0] at h0
      obtain ⟨A, c, l, e1, hlc, hC⟩ := open_kidsG (d := k47) Tryz.underlying43 (by kernel_rfl) h0 (fun fuel cs y hy hh => ih fuel cs y (by simp only [DataW.agg.sizeOf_spec, List.cons.sizeOf_spec, List.nil.sizeOf_spec] at hN; omega) hh)
      obtain rfl : c0 = .slice A l.length c := by simpa using e1
      exact ⟨⟨l⟩, Q.k47_mk w ⟨l⟩ hlc hC⟩
theorem open_trm {H : Type} {enc : TypeId × Value → H} {w : World} {base : Nat} {held : Bool} (N : Nat) : ∀ (fuel : Nat) (cs : List Value) (x : DataW H × List MemPlace), SizeOf.sizeOf x.1 ≤ N → DataW.trod enc Tryz.prog w base (fun _ => true) held fuel 50 cs = some x → ∃ t : S50, k50.K w t cs := by
  induction N with
  | zero =>
    intro fuel cs x hN
    have : 0 < SizeOf.sizeOf x.1 := by cases x.1 <;> simp <;> omega
    omega
  | succ N ih =>
    intro fuel cs x hN h
    obtain ⟨y0, y1, y2, n, rfl, hl, h0, h1, h2⟩ := trod_struct3 Tryz.underlying50 h
    have o0 : (Tryz.prog.cellsOf 3) = 1 := by kernel_rfl
    have o1 : (Tryz.prog.cellsOf 48) = 1 := by kernel_rfl
    have o2 : (Tryz.prog.cellsOf 50) = 3 := by kernel_rfl
    rw [o2] at hl
    match cs, hl with
    | [c0, c1, c2], _ =>
      simp only [o0, o1] at h0 h1 h2
      obtain ⟨s, e0, _, _⟩ := DataW.trod_int Tryz.underlying3 h0
      obtain ⟨t, e1, _, _⟩ := DataW.trod_int Tryz.underlying3 h1
      obtain ⟨A, c, l, e2, hlc, hC⟩ := open_kidsG (d := k50) Tryz.underlying48 (by kernel_rfl) h2 (fun fuel cs y hy hh => ih fuel cs y (by simp only [DataW.agg.sizeOf_spec, List.cons.sizeOf_spec, List.nil.sizeOf_spec] at hN; omega) hh)
      obtain rfl : c0 = .int .i64 s := by simpa using e0
      obtain rfl : c1 = .int .i64 t := by simpa using e1
      obtain rfl : c2 = .slice A l.length c := by simpa using e2
      exact ⟨⟨s, t, l⟩, Q.k50_mk w ⟨s, t, l⟩ hlc hC⟩
theorem opens_fun : Opens Tryz.prog 52 k52 (fun _ => True) := by
  intro H enc w base held fuel cs x h
  obtain ⟨y0, y1, y2, n, rfl, hl, h0, h1, h2⟩ := trod_struct3 Tryz.underlying52 h
  have o0 : (Tryz.prog.cellsOf 9) = 1 := by kernel_rfl
  have o1 : (Tryz.prog.cellsOf 47) = 1 := by kernel_rfl
  have o2 : (Tryz.prog.cellsOf 50) = 3 := by kernel_rfl
  have o3 : (Tryz.prog.cellsOf 52) = 5 := by kernel_rfl
  rw [o3] at hl
  match cs, hl with
  | [c0, c1, c2, c3, c4], _ =>
    simp only [o0, o1, o2] at h0 h1 h2
    obtain ⟨s, e0, _, _⟩ := DataW.trod_string Tryz.underlying9 h0
    obtain ⟨t, ht⟩ := open_srt _ _ _ _ (Nat.le_refl _) h1
    obtain ⟨u, hu⟩ := open_trm _ _ _ _ (Nat.le_refl _) h2
    obtain ⟨A1, d1, e1, l1, g1⟩ := Q.k47_open ht
    obtain ⟨A4, d4, e4, l4, g4⟩ := Q.k50_open hu
    have f0 : c0 = .string s := by simpa using e0
    have f1 : c1 = .slice A1 t.f0.length d1 := by simpa using e1
    have f4 : c2 = .int .i64 u.f0 ∧ c3 = .int .i64 u.f1 ∧ c4 = .slice A4 u.f2.length d4 := by simpa using e4
    obtain ⟨rfl, rfl, rfl⟩ := f4
    subst f0 f1
    exact ⟨⟨s, t, u⟩, Q.k52_mk w ⟨s, t, u⟩ l1 g1 l4 g4, trivial⟩
theorem opens_sym : Opens Tryz.prog 71 k71 (fun _ => True) := by
  intro H enc w base held fuel cs x h
  obtain ⟨y0, y1, n, rfl, hl, h0, h1⟩ := trod_struct2 Tryz.underlying71 h
  have o0 : (Tryz.prog.cellsOf 9) = 1 := by kernel_rfl
  have o1 : (Tryz.prog.cellsOf 3) = 1 := by kernel_rfl
  have o2 : (Tryz.prog.cellsOf 71) = 2 := by kernel_rfl
  rw [o2] at hl
  match cs, hl with
  | [c0, c1], _ =>
    simp only [o0, o1] at h0 h1
    obtain ⟨s, e0, _, _⟩ := DataW.trod_string Tryz.underlying9 h0
    obtain ⟨t, e1, _, _⟩ := DataW.trod_int Tryz.underlying3 h1
    obtain rfl : c0 = .string s := by simpa using e0
    obtain rfl : c1 = .int .i64 t := by simpa using e1
    exact ⟨⟨s, t⟩, Q.k71_mk w ⟨s, t⟩, trivial⟩
theorem arg_scheme {H : Type} {enc : TypeId × Value → H} {w : World} {base : Nat} {held : Bool} {v : Value} {d : DataW H} {p : List MemPlace} (hv : Value.okWide Tryz.prog w .any base 25 v) (h : DataW.Trod enc Tryz.prog w 0 (fun _ => true) held 25 v d p) :
    ∃ (sy : List S71) (fs : List S52) (A1 : Option Addr) (c1 : Nat) (A2 : Option Addr) (c2 : Nat), v = .agg #[.slice A1 sy.length c1, .slice A2 fs.length c2] ∧ sy.length ≤ c1 ∧ Kd.C k71 w A1 sy.length sy ∧ fs.length ≤ c2 ∧ Kd.C k52 w A2 fs.length fs := by
  obtain ⟨x0, y0, _, _, n0, rfl, _, _, a0, b0⟩ := Go.Joins.open_agg2 Tryz.underlying25 (by kernel_rfl) (by kernel_rfl) hv h
  obtain ⟨A1, c1, sy, rfl, hl1, hC1, _⟩ := open_row (d := k71) Tryz.underlying22 (by kernel_rfl) opens_sym a0
  obtain ⟨A2, c2, fs, rfl, hl2, hC2, _⟩ := open_row (d := k52) Tryz.underlying23 (by kernel_rfl) opens_fun b0
  exact ⟨sy, fs, A1, c1, A2, c2, rfl, hl1, hC1, hl2, hC2⟩
theorem own : ownKnob Tryz.prog.godebug = none := by kernel_rfl
theorem laidOut : laidOutB Tryz.prog = true := by kernel_rfl
abbrev laid7 : List (String × DataW Unit) := [("math/bits.deBruijn32tab", Rows.laid_math_bits_deBruijn32tab), ("math/bits.deBruijn64tab", Rows.laid_math_bits_deBruijn64tab), ("internal/strconv.uint64pow10", Rows.laid_internal_strconv_uint64pow10), ("unicode/utf8.acceptRanges", Rows.laid_unicode_utf8_acceptRanges), ("strconv.ErrRange", Rows.laid_strconv_ErrRange), ("strconv.ErrSyntax", Rows.laid_strconv_ErrSyntax), ("unicode/utf8.first", Rows.laid_unicode_utf8_first)]
theorem mx_of_shaped {w : World} (h : w.ShapedOpen Tryz.prog) : MX w :=
  Go.Proofs.cell_of_shapedOpen_int (g := 0) (t := 3) (zero := #[.int .i64 0]) h (of_decide_eq_true (by kernel_rfl)) (by kernel_rfl) rfl (by kernel_rfl) (by kernel_rfl) Tryz.underlying3
theorem handed_and_shaped {H : Type} {enc : TypeId × Value → H} {a : Assume} {C : Checked} {os : Os} {f : FuncId} {fn : Func} {s : ChangeSpec} {conds : List PathCond} {apart fresh handsOn again : Bool} {X : World → Array Value → Prop}
    (hX : ∀ (w w' : World) (args : Array Value), w.heap = w'.heap → X w args → X w' args)
    (own : ownKnob C.prog.godebug = none) (started : os.Started) (noInit : C.prog.inits.idxOf? f = none) (hfn : C.prog.funcs[f]? = some fn)
    (witness : ∃ (w : World) (tape : Tape) (i : Input), w.os = os ∧ (w.forCall tape i).Shaped C.prog ∧ i.vars = [] ∧ Input.okWide C.prog (w.forCall tape i) .any w.heap.size f i ∧
      ((s.pre enc C.prog fn conds apart (w.forCall tape i).memory i.args ∧ X (w.forCall tape i).memory i.args) ∧ sizedMet enc C.prog fn (OpenSpec.ofChange s) apart (w.forCall tape i).memory i.args) ∧ a.holds C.prog (lone (Frame.enter C.prog f i.args .normal) [] (w.forCall tape i)))
    (contract : ∀ (W : World) (base : Nat) (args : Array Value) (ds gs : List (DataW H)) (before : List MemPlace),
      (∀ (j : Nat) t v, fn.params[j]? = some t → args[j]? = some v → Value.okWide C.prog W .any base t v) →
      DataW.Whole enc C.prog fn.params.toList s.vars apart W args.toList ds gs before →
      conds.all (PathCond.test C.prog ⟨fn.params.toList, ds, s.plain.varTypes C.prog, gs⟩) = true →
      X W args → W.ShapedOpen C.prog →
      Calls C.prog f args W fun e W' => ∃ v, e = .returned v ∧ s.post enc C.prog fn apart fresh handsOn again W args v W') :
    ReturnsInHanded a C os f .any (fun w args => (s.pre enc C.prog fn conds apart w args ∧ X w args) ∧ sizedMet enc C.prog fn (OpenSpec.ofChange s) apart w args) (s.post enc C.prog fn apart fresh handsOn again) := by
  refine returnsInHanded_of_calls own started noInit witness ?_
  intro w tape i _ hsh _ hok hpre hholds
  obtain ⟨_, _, _, fn', hfn', _, _, _, _, hval⟩ := hok
  have e : fn' = fn := Option.some.inj (hfn'.symm.trans hfn)
  subst e
  obtain ⟨⟨⟨ds, gs, before, hw, hc⟩, hx⟩, hz⟩ := hpre
  have hw' := DataW.Whole.of_heap (w' := w.forCall tape i) (by rfl) hw
  refine (contract (w.forCall tape i) w.heap.size i.args ds gs before hval hw' hc (hX _ _ _ (by rfl) hx) hsh).mono fun e W' ⟨v, he, hp⟩ => ?_
  subst he
  exact ChangeSpec.post_blind hp
end Go.Proofs.YthflpbgloeimfaaGreatDoor.H
