/- What autoGet_calls, handed_and_shaped, own, laidOut, laid7, mx_of_shaped, tabD_of_laid, arg_auto, arg_tree needs, out of my texts, by a program (slim.py). -/
import Derived.Test.YtbmcigakiibncaaGreatDoorSG2
namespace Go.Proofs.YtbmcigakiibncaaGreatDoor.H
open Go.RowKit Go.Proofs.YtbmcigakiibncaaGreatDoorW.PrintWords Go.Proofs.YtbmcigakiibncaaGreatDoorW.PrintLast Go.Proofs.YtbmcigakiibncaaGreatDoorW.PrintMore
set_option linter.unusedVariables false
set_option linter.unusedSimpArgs false
theorem rbefore_calls (x y : Nd) (W : World) : Calls Tryz.prog 114 #[.agg #[.int .i64 x.f0, .int .i64 x.f1], .agg #[.int .i64 y.f0, .int .i64 y.f1]] W fun E w' => E = .returned (.int .i64 (sgI (befI x y))) ∧ Below W.heap.size W w' := by
  obtain ⟨k, hk⟩ := (beforeR_ev x y).rounds
  exact Q.virgationref09_Before.calls k x.f0 x.f1 y.f0 y.f1 _ W hk
theorem altB_false {r n : Int} {l : List Nd} {j : Nat} (hj : j < l.length) (h : altAt l r n j = false) : altB r n l = false := by
  cases e : altB r n l with
  | false => rfl
  | true =>
    unfold altB at e
    rw [allF_iff] at e
    rw [e j (Nat.zero_le _) (by omega)] at h; cases h
theorem altB_true {r n : Int} {l : List Nd} (h : ∀ i, i < l.length → altAt l r n i = true) : altB r n l = true := by
  unfold altB
  rw [allF_iff]
  exact fun i _ hi => h i (by omega)
theorem altAt_bad {l : List Nd} {r n : Int} {j : Nat} (h : nbad r n (l.getD j zN) = true) : altAt l r n j = false := by unfold altAt; rw [h]; rfl
theorem altAt_zero {l : List Nd} {r n : Int} (h : nbad r n (l.getD 0 zN) = false) : altAt l r n 0 = true := by unfold altAt; rw [h]; rfl
theorem altAt_succ {l : List Nd} {r n : Int} {i : Nat} (h : nbad r n (l.getD (i + 1) zN) = false) : altAt l r n (i + 1) = decide (befI (l.getD i zN) (l.getD (i + 1) zN) < 0) := by unfold altAt; rw [h]; simp
theorem nbad_q {r n : Int} {x : Nd} : nbad r n x = (decide (x.f0 < 0) || decide (x.f0 ≥ r) || decide (x.f1 < 0) || decide (x.f1 ≥ n)) := rfl
structure NB (w : World) (b : Nat) (x : Nd) (W : World) : Prop where
  hb : Below w.heap.size w W
  box : W.heap[b]? = some (.cells #[.int .i64 x.f0, .int .i64 x.f1] 83 (0, 0))
theorem NB.below {w W W1 : World} {b : Nat} {x : Nd} (h : NB w b x W) (hb : Below W.heap.size W W1) : NB w b x W1 := ⟨below_then h.hb h.hb.size hb, blk_below h.box hb⟩
theorem NB.cells {w W : World} {b : Nat} {x : Nd} (h : NB w b x W) : W.cell? ⟨b, 0, none⟩ = some (.int .i64 x.f0) ∧ W.cell? ⟨b, 1, none⟩ = some (.int .i64 x.f1) :=
  ⟨(blk_cell h.box 0).trans rfl, (blk_cell h.box 1).trans rfl⟩
set_option maxHeartbeats 8000000 in
set_option maxRecDepth 100000 in
theorem altR_calls (A : Option Addr) (c : Nat) (l : List Nd) (r n : Int) (w : World) (hr : Kd.C Q.k83 w A l.length l) :
    Calls Tryz.prog 93 #[.slice A l.length c, .int .i64 r, .int .i64 n] w fun e w' => e = .returned (.bool (altB r n l)) ∧ Below w.heap.size w w' := by
  have HR := Aside0.mk hr
  have HM := Aside0.mk (show l.length ≤ 9223372036854775807 from hr.2.1)
  clear hr
  go_enter Tryz.func93, Tryz.ntmps93
  go_wp2
  go_loopg [11] l.length (fun gg v11 wi => ∃ j : Nat, j ≤ l.length ∧ l.length - j ≤ gg ∧ v11 = .int .i64 j ∧ Aside0 (Below w.heap.size w wi) ∧ Aside0 (∀ i, i < j → altAt l r n i = true))
  case atStart => exact ⟨0, Nat.zero_le _, Nat.le_refl _, rfl, ⟨Below.refl _ _⟩, ⟨fun i hi => absurd hi (Nat.not_lt_zero _)⟩⟩
  case round =>
    obtain ⟨j, hj, hgg, rfl, HB, HP⟩ := hrel
    by_cases hlt : j < l.length
    · have hltz : (j : Int) < (l.length : Int) := by omega
      have HLT := Aside0.mk hlt
      have HKZ := Aside0.mk (show wrap64 ((j : Int) + 1) = ((j + 1 : Nat) : Int) by rw [wr_id (by omega) (by have := HM.out; omega)]; rfl)
      obtain ⟨ad, e, hk, hkb⟩ := at_need HR.out j hlt
      subst e
      replace hk := pw_cell_below HB.out hk
      replace hkb := pw_cell_below HB.out hkb
      have HF := Aside0.mk (show nbad r n (l.getD j zN) = true → altB r n l = false from fun h => altB_false hlt (altAt_bad h))
      have HZ := Aside0.mk (show j = 0 → nbad r n (l.getD j zN) = false → ∀ i, i < j + 1 → altAt l r n i = true from fun h0 hnb i hi => by subst h0; rw [show i = 0 by omega]; exact altAt_zero hnb)
      have HVF := Aside0.mk (show ∀ i, j = i + 1 → nbad r n (l.getD j zN) = false → ¬ befI (l.getD i zN) (l.getD j zN) < 0 → altB r n l = false from fun i e hnb h => altB_false hlt (by subst e; rw [altAt_succ hnb]; exact decide_eq_false h))
      have HVT := Aside0.mk (show ∀ i, j = i + 1 → nbad r n (l.getD j zN) = false → befI (l.getD i zN) (l.getD j zN) < 0 → ∀ i', i' < j + 1 → altAt l r n i' = true from fun i e hnb h i' hi' => by
          rcases Nat.lt_or_ge i' j with h2 | h2
          · exact HP.out i' h2
          · rw [show i' = j by omega]; subst e; rw [altAt_succ hnb]; exact decide_eq_true h)
      clear HP
      generalize l.getD j zN = x at *
      go_upto_region 4 with (fail)
      have HN := Aside0.mk (NB.mk (below_alloc HB.out (.cells #[.int .i64 x.f0, .int .i64 x.f1] 83)) (blk_new wr (.cells #[.int .i64 x.f0, .int .i64 x.f1] 83)))
      generalize wr.alloc (.cells #[.int .i64 x.f0, .int .i64 x.f1] 83) = W8 at *
      have hc3 := (HN.out).cells.1
      have hc4 := (HN.out).cells.2
      clear hk hkb
      generalize wr.heap.size = b at *
      cases q1 : decide (x.f0 < 0) with
      | true =>
        have HV := Aside0.mk (HF.out (by rw [nbad_q, q1]; rfl))
        go_quiet (fail)
        go_wp2
        go_ret
        exact ⟨by rw [HV.out]; rfl, by apply pw_below_drewN; exact (HN.out).hb⟩
      | false =>
      cases q2 : decide (x.f0 ≥ r) with
      | true =>
        have HV := Aside0.mk (HF.out (by rw [nbad_q, q1, q2]; rfl))
        go_quiet (fail)
        go_wp2
        go_ret
        exact ⟨by rw [HV.out]; rfl, by apply pw_below_drewN; exact (HN.out).hb⟩
      | false =>
      cases q3 : decide (x.f1 < 0) with
      | true =>
        have HV := Aside0.mk (HF.out (by rw [nbad_q, q1, q2, q3]; rfl))
        go_quiet (fail)
        go_wp2
        go_ret
        exact ⟨by rw [HV.out]; rfl, by apply pw_below_drewN; exact (HN.out).hb⟩
      | false =>
      cases q4 : decide (x.f1 ≥ n) with
      | true =>
        have HV := Aside0.mk (HF.out (by rw [nbad_q, q1, q2, q3, q4]; rfl))
        go_quiet (fail)
        go_wp2
        go_ret
        exact ⟨by rw [HV.out]; rfl, by apply pw_below_drewN; exact (HN.out).hb⟩
      | false =>
      have HNB := Aside0.mk (show nbad r n x = false by rw [nbad_q, q1, q2, q3, q4]; rfl)
      cases j with
      | zero =>
        have HT := Aside0.mk (HZ.out rfl HNB.out)
        have q5 : decide (((0 : Nat) : Int) > 0) = false := by decide
        go_quiet (fail)
        go_wp2
        go_roundg (l.length - (0 + 1))
        case measure => have := HLT.out; omega
        case rel => exact ⟨0 + 1, HLT.out, Nat.le_refl _, by first | rw [HKZ.out] | rfl, ⟨by first | (apply pw_below_drewN; exact (HN.out).hb) | exact (HN.out).hb⟩, HT⟩
      | succ i =>
        obtain ⟨ad', e, hk, hkb⟩ := at_need HR.out i (by omega)
        cases e
        replace hk := pw_cell_below (HN.out).hb hk
        replace hkb := pw_cell_below (HN.out).hb hkb
        have HBE := Aside0.mk (rbefore_calls (l.getD i zN) x)
        have HVF' := Aside0.mk (HVF.out i rfl HNB.out)
        have HVT' := Aside0.mk (HVT.out i rfl HNB.out)
        clear HF HVF HVT HZ
        generalize l.getD i zN = y at *
        generalize befI y x = v at *
        have HS := Aside0.mk (sgI_neg v)
        generalize sgI v = sv at *
        have q5 : decide (((i + 1 : Nat) : Int) > 0) = true := decide_eq_true (by omega)
        have q6 : wrap64 (((i + 1 : Nat) : Int) - 1) = (i : Int) := wrap_pred (by have := HM.out; have := HLT.out; omega)
        have q7 : (i : Int) < (l.length : Int) := by omega
        have q9 : (0 : Int) ≤ (i : Int) := by omega
        have q10 : wrap64 (i : Int) = (i : Int) := wr_id (by omega) (by have := HM.out; have := HLT.out; omega)
        have hwj : IntKind.i64.wrap (i : Int) = (i : Int) := by rw [i64_w]; exact q10
        have HN0 := Aside0.mk ((HN.out).below (below_drew (Below.refl _ _)))
        have hk' := pw_cell_below (below_drew (Below.refl W8.heap.size W8)) hk
        have hkb' := pw_cell_below (below_drew (Below.refl W8.heap.size W8)) hkb
        cases q8 : decide (sv ≥ 0) with
        | true =>
          have HV := Aside0.mk (HVF'.out (fun h => by have := (HS.out).2 h; have := of_decide_eq_true q8; omega))
          go_region_held3 (fun w' => (w'.cell? ⟨b, 0, none⟩ = some (.int .i64 x.f0) ∧ w'.cell? ⟨b, 1, none⟩ = some (.int .i64 x.f1)) ∧ (w'.cell? (ad.add (i * 2)) = some (.int .i64 y.f0) ∧ w'.cell? ⟨(ad.add (i * 2)).block, (ad.add (i * 2)).off + 1, none⟩ = some (.int .i64 y.f1)))
            (first | exact ⟨(HN2.out).cells, pw_cell_below HB2.out hk', pw_cell_below HB2.out hkb'⟩ | exact ⟨(HN0.out).cells, hk', hkb'⟩ | exact ⟨(HN.out).cells, hk, hkb⟩ | fail)
            (first | (go_at_call 114; (with_reducible refine (HBE.out _).mono ?_); rintro E w2 ⟨rfl, hb⟩; have HN2 := Aside0.mk ((HN0.out).below hb); have HB2 := Aside0.mk hb; clear hb) | fail)
          go_wp2
          go_ret
          exact ⟨by rw [HV.out]; rfl, (HN2.out).hb⟩
        | false =>
          have HV := Aside0.mk (HVT'.out ((HS.out).1 (by have := of_decide_eq_false q8; omega)))
          go_region_held3 (fun w' => (w'.cell? ⟨b, 0, none⟩ = some (.int .i64 x.f0) ∧ w'.cell? ⟨b, 1, none⟩ = some (.int .i64 x.f1)) ∧ (w'.cell? (ad.add (i * 2)) = some (.int .i64 y.f0) ∧ w'.cell? ⟨(ad.add (i * 2)).block, (ad.add (i * 2)).off + 1, none⟩ = some (.int .i64 y.f1)))
            (first | exact ⟨(HN2.out).cells, pw_cell_below HB2.out hk', pw_cell_below HB2.out hkb'⟩ | exact ⟨(HN0.out).cells, hk', hkb'⟩ | exact ⟨(HN.out).cells, hk, hkb⟩ | fail)
            (first | (go_at_call 114; (with_reducible refine (HBE.out _).mono ?_); rintro E w2 ⟨rfl, hb⟩; have HN2 := Aside0.mk ((HN0.out).below hb); have HB2 := Aside0.mk hb; clear hb) | fail)
          go_wp2
          go_roundg (l.length - (i + 1 + 1))
          case measure => have := HLT.out; omega
          case rel => exact ⟨i + 1 + 1, HLT.out, Nat.le_refl _, by first | rw [HKZ.out] | exact congrArg (Value.int .i64) HKZ.out, ⟨(HN2.out).hb⟩, HV⟩
    · obtain rfl : j = l.length := by omega
      have HV := Aside0.mk (altB_true HP.out)
      clear HP hlt hj hgg
      go_wp2
      go_ret
      exact ⟨by rw [HV.out]; rfl, HB.out⟩
end Go.Proofs.YtbmcigakiibncaaGreatDoor.H
namespace Go.Proofs.YtbmcigakiibncaaGreatDoor.H
open Go.RowKit Go.Proofs.YtbmcigakiibncaaGreatDoorW.PrintWords Go.Proofs.YtbmcigakiibncaaGreatDoorW.PrintLast Go.Proofs.YtbmcigakiibncaaGreatDoorW.PrintMore
set_option linter.unusedVariables false
set_option linter.unusedSimpArgs false
theorem at_int {w : World} {A : Option Addr} {n : Nat} {xs : List Int} (h : Kd.C (Kd.int .i64) w A n xs) (i : Nat) (hi : i < n) :
    ∃ ad, A = some ad ∧ w.cell? (ad.add i) = some (.int .i64 (xs.getD i 0)) := by
  obtain ⟨ad, c, e, _, hK, hc0⟩ := Kd.C_get h 0 (i : Int) (by omega) (by omega)
  have hc : ∀ j u, c[j]? = some u → w.cell? (ad.add (i * 1 + j)) = some u := fun j u hj => by have := hc0 j u hj; rwa [Int.toNat_natCast] at this
  obtain rfl := hK
  exact ⟨ad, e, by have hq := hc 0 _ rfl; rwa [Nat.mul_one, Nat.add_zero] at hq⟩
theorem pb_start (w W : World) (x y z : Value) (hb : Below w.heap.size w W) (box : W.heap[w.heap.size]? = some (.cells #[x, y, z] 25 (0, 0))) :
    PB w W.heap.size x y z [] (W.alloc (.cells #[.pointer none, .slice none 0 0] 76)) :=
  ⟨hb.alloc hb.size _, blk_alloc box _, blk_lt box, .inl ⟨Nat.le_refl _, .slice none 0 0, blk_new W _, ⟨rfl, .inl ⟨rfl, rfl⟩⟩, fun h => by cases h⟩, by simp⟩
def PutE (rk : List Int) (st : Int) (M : Mv) (w : World) (e : Ending) (w' : World) : Prop := e = .returned (.tuple #[.string ⟨(putR rk st M).1.toArray⟩, .int .i64 (putR rk st M).2]) ∧ Below w.heap.size w w'
theorem getD_memI {l : List Int} {i : Nat} (h : i < l.length) : l.getD i 0 ∈ l := by
  rw [List.getD_eq_getElem?_getD, List.getElem?_eq_getElem h]; exact List.getElem_mem h
theorem getD_memX {α : Type} {l : List α} {i : Nat} (d : α) (h : i < l.length) : l.getD i d ∈ l := by
  rw [List.getD_eq_getElem?_getD, List.getElem?_eq_getElem h]; exact List.getElem_mem h
theorem itoaN_calls (k : Nat) (h : k < 100) (w : World) : Calls Tryz.prog 53 #[.int .i64 (k : Int)] w fun e w' => e = .returned (.string ⟨(dg k).toArray⟩) ∧ w' = w := Tryz.strconv_Itoa_small k h w
set_option maxHeartbeats 16000000 in
set_option maxRecDepth 100000 in
theorem put_calls (rk : List Int) (M : Mv) (st : Int) (A1 : Option Addr) (c1 : Nat) (A2 : Option Addr) (c2 : Nat) (w : World)
    (hr : Kd.C (Kd.int .i64) w A1 rk.length rk) (hc1 : rk.length ≤ c1) (hM : Kd.C kA3 w A2 M.length M) :
    Calls Tryz.prog 24 #[.agg #[.slice A1 rk.length c1, .int .i64 st, .slice A2 M.length c2]] w (PutE rk st M w) := by
  have HR := Aside0.mk hr
  have HM := Aside0.mk hM
  have hb0 := below_alloc (Below.refl w.heap.size w) (.cells #[.slice A1 rk.length c1, .int .i64 st, .slice A2 M.length c2] 25)
  have HCK := Aside0.mk (acheckG_calls rk M st A1 c1 A2 c2 _ (Kd.C_below hr hb0) hc1 (Kd.C_below hM hb0))
  have HB0 := Aside0.mk hb0
  have HX0 := Aside0.mk (blk_new w (.cells #[.slice A1 rk.length c1, .int .i64 st, .slice A2 M.length c2] 25))
  clear hr hc1 hM hb0
  go_enter Tryz.func24, Tryz.ntmps24
  go_upto_region 1 with (fail)
  generalize w.alloc (.cells #[.slice A1 rk.length c1, .int .i64 st, .slice A2 M.length c2] 25) = W1 at *
  have k0 : W1.cell? ⟨w.heap.size, 0, none⟩ = some (.slice A1 rk.length c1) := (blk_cell HX0.out 0).trans rfl
  have k1 : W1.cell? ⟨w.heap.size, 1, none⟩ = some (.int .i64 st) := (blk_cell HX0.out 1).trans rfl
  have k2 : W1.cell? ⟨w.heap.size, 2, none⟩ = some (.slice A2 M.length c2) := (blk_cell HX0.out 2).trans rfl
  cases hau : auB rk st M with
  | false =>
    rw [chk_false hau] at HCK
    have HP := Aside0.mk (show putR rk st M = ([], 10) by unfold putR; rw [hau]; rfl)
    clear hau
    go_wp2_with fail
    refine (HCK.out).mono ?_
    rintro E W2 ⟨rfl, hb⟩
    have HB1 := Aside0.mk (below_then HB0.out (HB0.out).size hb)
    clear hb
    go_wp2
    go_ret2
    exact ⟨by rw [HP.out]; rfl, HB1.out⟩
  | true =>
  rw [chk_true hau] at HCK
  have HOK := Aside0.mk (auOk hau)
  have HPR := Aside0.mk (show putR rk st M = if 65536 < (putL rk st M).length then ([], 3) else (putL rk st M, 0) by unfold putR; rw [hau]; rfl)
  have HLN := Aside0.mk (putL_len HOK.out)
  clear hau
  go_wp2_with fail
  refine (HCK.out).mono ?_
  rintro E W2 ⟨rfl, hb⟩
  have HS := Aside0.mk (pb_start w W2 _ _ _ (below_then HB0.out (HB0.out).size hb) (blk_below HX0.out hb))
  clear hb HCK HB0 HX0 k0 k1 k2
  go_upto_region 5 with (fail)
  generalize W2.heap.size = b at *
  generalize W2.alloc _ = W3 at *
  have HW := Aside0.mk (ws_calls b [] ⟨#[114, 97, 110, 107, 115]⟩ tRanks W3 (HS.out).bb rfl (by unfold tRanks; simp) (HS.out).hbw)
  go_wp2_with fail
  refine (HW.out).mono ?_
  rintro E W4 ⟨rfl, hB, hb⟩
  have HS4 := Aside0.mk ((HS.out).write hb hB)
  clear hB hb HW HS
  have HRL := Aside0.mk (show rk.length ≤ 24 from (HOK.out).nrk)
  have k0 : W4.cell? ⟨w.heap.size, 0, none⟩ = some (.slice A1 rk.length c1) := (blk_cell (HS4.out).box 0).trans rfl
  go_wp2
  clear k0
  go_loopg [25] rk.length (fun gg v25 wi => ∃ (i : Nat) (acc : List UInt8), i ≤ rk.length ∧ rk.length - i ≤ gg ∧ v25 = .int .i64 i ∧ Aside0 (PB w b (.slice A1 rk.length c1) (.int .i64 st) (.slice A2 M.length c2) acc wi) ∧ Aside0 (acc ++ (ranksT (rk.drop i) ++ (secT M.length st.toNat ++ movT 0 M)) = putL rk st M))
  case atStart => exact ⟨0, _, Nat.zero_le _, Nat.le_refl _, rfl, HS4, ⟨rfl⟩⟩
  case round =>
    clear HS4
    obtain ⟨i, acc, hi, hgg, rfl, HS5, HA⟩ := hrel
    by_cases hlt : i < rk.length
    · have hltz : (i : Int) < (rk.length : Int) := by omega
      have HLT := Aside0.mk hlt
      obtain ⟨ad, e, hk⟩ := at_int (Kd.C_below HR.out (HS5.out).hb) i hlt
      subst e
      have HRR := Aside0.mk ((HOK.out).rks _ (getD_memI hlt))
      have HFD := Aside0.mk (show ranksT (rk.drop i) = (32 :: dg (rk.getD i 0).toNat) ++ ranksT (rk.drop (i + 1)) from flatMap_drop hlt)
      have HKZ := Aside0.mk (show wrap64 ((i : Int) + 1) = ((i + 1 : Nat) : Int) by rw [wr_id (by omega) (by have := HRL.out; omega)]; rfl)
      generalize rk.getD i 0 = r at *
      have hd : (dg r.toNat).length ≤ 2 := dg_len (by have := (HRR.out).1; have := (HRR.out).2; omega)
      have HI := Aside0.mk (fun W => itoa_calls r (HRR.out).1 (by have := (HRR.out).2; omega) W)
      clear hlt hi
      go_wp2_with fail
      refine ((HI.out) _).mono ?_
      rintro E W5 ⟨rfl, rfl⟩
      have HA6 := Aside0.mk (show (acc ++ (32 :: dg r.toNat)) ++ (ranksT (rk.drop (i + 1)) ++ (secT M.length st.toNat ++ movT 0 M)) = putL rk st M by rw [← HA.out, HFD.out]; simp)
      have HLA := Aside0.mk (show acc.length + (32 :: dg r.toNat).length ≤ 1000000 by
        have h1 := HLN.out
        rw [← HA6.out, List.length_append, List.length_append] at h1
        omega)
      have HWS := Aside0.mk (fun (s : ByteArray) (hs : s.data.toList = 32 :: dg r.toNat) => ws_calls b acc s _ _ (HS5.out).bb hs (by have := HLA.out; omega) (HS5.out).hbw)
      go_wp2_with fail
      refine ((HWS.out) _ ?_).mono ?_
      · first | rfl | simp
      rintro E W6 ⟨rfl, hB, hb⟩
      have HS7 := Aside0.mk ((HS5.out).write hb hB)
      clear hB hb
      go_wp2
      go_roundg (rk.length - (i + 1))
      case measure => have := HLT.out; omega
      case rel => exact ⟨i + 1, _, HLT.out, Nat.le_refl _, by rw [HKZ.out], HS7, HA6⟩
    · obtain rfl : i = rk.length := by omega
      have HA2 := Aside0.mk (show acc ++ (secT M.length st.toNat ++ movT 0 M) = putL rk st M by rw [← HA.out, List.drop_length]; rfl)
      clear HA hi hgg hlt
      go_upto_region 11 with (fail)
      have k1 : wr.cell? ⟨w.heap.size, 1, none⟩ = some (.int .i64 st) := (blk_cell (HS5.out).box 1).trans rfl
      have k2 : wr.cell? ⟨w.heap.size, 2, none⟩ = some (.slice A2 M.length c2) := (blk_cell (HS5.out).box 2).trans rfl
      have HI1 := Aside0.mk (fun W => itoa_calls (M.length : Int) (by omega) (by have := (HOK.out).nM; omega) W)
      have HI2 := Aside0.mk (fun W => itoa_calls st (HOK.out).st0 (by have := (HOK.out).nM; have := (HOK.out).st1; omega) W)
      have hd1 : (dg M.length).length ≤ 2 := dg_len (by have := (HOK.out).nM; omega)
      have hd2 : (dg st.toNat).length ≤ 2 := dg_len (by have := (HOK.out).nM; have := (HOK.out).st1; omega)
      refine wp_region_still_tail 11 (by kernel_rfl) (by kernel_rfl) ?_
      simp only [List.take_succ_cons, List.take_zero, List.drop_succ_cons, List.drop_zero]
      repeat (refine wpStill_step (fun K hK => ?_); go_simp; (first | refine hK _ ?_ | (rw [if_neg (by omega)]; go_simp; refine hK _ ?_)); clear hK K)
      still_call (HI1.out _)
      repeat (refine wpStill_step (fun K hK => ?_); go_simp; (first | refine hK _ ?_ | (rw [if_neg (by omega)]; go_simp; refine hK _ ?_)); clear hK K)
      still_call (HI2.out _)
      repeat (refine wpStill_step (fun K hK => ?_); go_simp; (first | refine hK _ ?_ | (rw [if_neg (by omega)]; go_simp; refine hK _ ?_)); clear hK K)
      refine wpStill_nil ?_
      change wpList _ _ _ _ _ wr.drew
      have HSd := Aside0.mk ((HS5.out).below (below_drew (Below.refl _ _)))
      clear k1 k2 HS5 HI1 HI2
      generalize wr.drew = W5 at *
      have HA6 := Aside0.mk (show (acc ++ secT M.length st.toNat) ++ (movT 0 M) = putL rk st M by rw [← HA2.out]; simp)
      have HLA6 := Aside0.mk (show (acc).length + (secT M.length st.toNat).length ≤ 1000000 by
        have h1 := HLN.out
        rw [← HA6.out, List.length_append, List.length_append] at h1
        omega)
      have HWS6 := Aside0.mk (fun (s : ByteArray) (hs : s.data.toList = secT M.length st.toNat) => ws_calls b (acc) s _ _ (HSd.out).bb hs (by have := HLA6.out; omega) (HSd.out).hbw)
      go_wp2_with fail
      refine ((HWS6.out) _ ?_).mono ?_
      · first | rfl | (simp; done) | (simp; rfl)
      rintro E W6 ⟨rfl, hB, hb⟩
      have HS6 := Aside0.mk ((HSd.out).write hb hB)
      clear hB hb HWS6 HLA6
      have k2 : W6.cell? ⟨w.heap.size, 2, none⟩ = some (.slice A2 M.length c2) := (blk_cell (HS6.out).box 2).trans rfl
      have HNM := Aside0.mk (HOK.out).nM
      clear HA2 HSd hd1 hd2
      generalize acc ++ secT M.length st.toNat = acc0 at *
      go_wp2
      clear k2
      go_loopg [49] M.length (fun gg v49 wi => ∃ (q : Nat) (acc : List UInt8), q ≤ M.length ∧ M.length - q ≤ gg ∧ v49 = .int .i64 q ∧ Aside0 (PB w b (.slice A1 rk.length c1) (.int .i64 st) (.slice A2 M.length c2) acc wi) ∧ Aside0 (acc ++ movT q (M.drop q) = putL rk st M))
      case atStart => exact ⟨0, _, Nat.zero_le _, Nat.le_refl _, rfl, HS6, HA6⟩
      case round =>
        clear HS6 HA6
        obtain ⟨q, acc, hq, hgg, rfl, HS, HA⟩ := hrel
        by_cases hlt : q < M.length
        · have hltz : (q : Int) < (M.length : Int) := by omega
          have HLT := Aside0.mk hlt
          obtain ⟨ad, A0, c0, e, hk, hc0, hrow⟩ := at_sl HM.out q hlt
          subst e
          have hk2 := pw_cell_below (HS.out).hb hk
          have HROW := Aside0.mk hrow
          have HRM := Aside0.mk (getD_memX [] hlt)
          have HDQ := Aside0.mk (movT_drop hlt)
          have HKQ := Aside0.mk (show wrap64 ((q : Int) + 1) = ((q + 1 : Nat) : Int) by rw [wr_id (by omega) (by have := HNM.out; omega)]; rfl)
          have HQ100 := Aside0.mk (show q < 100 by have := HNM.out; omega)
          clear hk hc0 hrow hlt hq
          generalize M.getD q [] = row at *
          have HRL2 := Aside0.mk ((HOK.out).row row HRM.out)
          go_wp2
          clear hk2 hltz
          go_loopg [56] row.length (fun gg v56 wi => ∃ (f : Nat) (acc : List UInt8), f ≤ row.length ∧ row.length - f ≤ gg ∧ v56 = .int .i64 f ∧ Aside0 (PB w b (.slice A1 rk.length c1) (.int .i64 st) (.slice (some ad) M.length c2) acc wi) ∧ Aside0 (acc ++ (rowT q f (row.drop f) ++ movT (q + 1) (M.drop (q + 1))) = putL rk st M))
          case atStart => exact ⟨0, acc, Nat.zero_le _, Nat.le_refl _, rfl, HS, ⟨by rw [← HA.out, HDQ.out]; rfl⟩⟩
          case round =>
            clear HS HA HDQ
            obtain ⟨f, acc, hf, hgg, rfl, HS, HA⟩ := hrel
            by_cases hlt : f < row.length
            · have hltz : (f : Int) < (row.length : Int) := by omega
              have HLF := Aside0.mk hlt
              obtain ⟨ad3, A3, c3, e, hk, hc3, halt⟩ := at_sl HROW.out f hlt
              subst e
              have hk2 := pw_cell_below (HS.out).hb hk
              have HALT := Aside0.mk halt
              have HAM := Aside0.mk (getD_memX [] hlt)
              have HDF := Aside0.mk (rowT_drop (q := q) hlt)
              have HF24 := Aside0.mk (show f < 24 by have := HRL.out; have := HRL2.out; omega)
              have HKF := Aside0.mk (show wrap64 ((f : Int) + 1) = ((f + 1 : Nat) : Int) by rw [wr_id (by omega) (by have := HF24.out; omega)]; rfl)
              clear hk hc3 halt hlt hf
              generalize row.getD f [] = alts at *
              have HAL := Aside0.mk ((HOK.out).alts row HRM.out alts HAM.out)
              go_wp2
              clear hk2 hltz
              go_loopg [63] alts.length (fun gg v63 wi => ∃ (i : Nat) (acc : List UInt8), i ≤ alts.length ∧ alts.length - i ≤ gg ∧ v63 = .int .i64 i ∧ Aside0 (PB w b (.slice A1 rk.length c1) (.int .i64 st) (.slice (some ad) M.length c2) acc wi) ∧ Aside0 (acc ++ ((alts.drop i).flatMap (altT q f) ++ (rowT q (f + 1) (row.drop (f + 1)) ++ movT (q + 1) (M.drop (q + 1)))) = putL rk st M))
              case atStart => exact ⟨0, acc, Nat.zero_le _, Nat.le_refl _, rfl, HS, ⟨by rw [← HA.out, HDF.out]; simp [symT]⟩⟩
              case round =>
                clear HS HA HDF
                obtain ⟨i, acc, hi, hgg, rfl, HS, HA⟩ := hrel
                by_cases hlt : i < alts.length
                · have hltz : (i : Int) < (alts.length : Int) := by omega
                  have HLI := Aside0.mk hlt
                  obtain ⟨ad4, A4, c4, e, hk, hc4, hl⟩ := at_sl HALT.out i hlt
                  subst e
                  have hk2 := pw_cell_below (HS.out).hb hk
                  have HL := Aside0.mk hl
                  have HLM := Aside0.mk (getD_memX [] hlt)
                  have HDI := Aside0.mk (flatMap_drop (g := altT q f) (d := []) hlt)
                  have HKI := Aside0.mk (show wrap64 ((i : Int) + 1) = ((i + 1 : Nat) : Int) by rw [wr_id (by omega) (by have := HAL.out; omega)]; rfl)
                  clear hk hc4 hl hlt hi
                  generalize alts.getD i [] = l at *
                  have HLL := Aside0.mk ((HOK.out).lens row HRM.out alts HAM.out l HLM.out)
                  have hdq : (dg q).length ≤ 2 := dg_len HQ100.out
                  have hdf : (dg f).length ≤ 2 := dg_len (by have := HF24.out; omega)
                  have HI1 := Aside0.mk (fun W => itoaN_calls q HQ100.out W)
                  have HI2 := Aside0.mk (fun W => itoaN_calls f (by have := HF24.out; omega) W)
                  have HA7 := Aside0.mk (show (acc ++ headT q f) ++ (l.flatMap needT ++ ([10] ++ ((alts.drop (i + 1)).flatMap (altT q f) ++ (rowT q (f + 1) (row.drop (f + 1)) ++ movT (q + 1) (M.drop (q + 1)))))) = putL rk st M by rw [← HA.out, HDI.out]; unfold altT; simp)
                  have HLA7 := Aside0.mk (show (acc).length + (headT q f).length ≤ 1000000 by
                    have h1 := HLN.out
                    rw [← HA7.out, List.length_append, List.length_append] at h1
                    omega)
                  have HWS7 := Aside0.mk (fun (s : ByteArray) (hs : s.data.toList = headT q f) => ws_calls b (acc) s _ _ (HS.out).bb hs (by have := HLA7.out; omega) (HS.out).hbw)
                  go_wp2_with fail
                  refine ((HI1.out) _).mono ?_
                  rintro E W0 ⟨rfl, rfl⟩
                  go_wp2_with fail
                  refine ((HI2.out) _).mono ?_
                  rintro E W0 ⟨rfl, rfl⟩
                  go_wp2_with fail
                  refine ((HWS7.out) _ ?_).mono ?_
                  · first | rfl | (simp; done) | (simp; rfl)
                  rintro E W7 ⟨rfl, hB, hb⟩
                  have HS7 := Aside0.mk ((HS.out).write hb hB)
                  clear hB hb HWS7 HLA7
                  clear hdq hdf HI1 HI2 hk2 hltz HS HA HDI
                  generalize acc ++ headT q f = acc1 at *
                  go_wp2
                  go_loopg [77] l.length (fun gg v77 wi => ∃ (j : Nat) (acc : List UInt8), j ≤ l.length ∧ l.length - j ≤ gg ∧ v77 = .int .i64 j ∧ Aside0 (PB w b (.slice A1 rk.length c1) (.int .i64 st) (.slice (some ad) M.length c2) acc wi) ∧ Aside0 (acc ++ ((l.drop j).flatMap needT ++ ([10] ++ ((alts.drop (i + 1)).flatMap (altT q f) ++ (rowT q (f + 1) (row.drop (f + 1)) ++ movT (q + 1) (M.drop (q + 1)))))) = putL rk st M))
                  case atStart => exact ⟨0, _, Nat.zero_le _, Nat.le_refl _, rfl, HS7, HA7⟩
                  case round =>
                    clear HS7 HA7
                    obtain ⟨j, acc, hj, hgg, rfl, HS, HA⟩ := hrel
                    by_cases hlt : j < l.length
                    · have hltz : (j : Int) < (l.length : Int) := by omega
                      have HLJ := Aside0.mk hlt
                      obtain ⟨ad5, e, hk, hkb⟩ := at_need HL.out j hlt
                      subst e
                      have hk2 := pw_cell_below (HS.out).hb hk
                      have hk3 := pw_cell_below (HS.out).hb hkb
                      have HND := Aside0.mk ((HOK.out).nds row HRM.out alts HAM.out l HLM.out _ (getD_memX zN hlt))
                      have HDJ := Aside0.mk (flatMap_drop (g := needT) (d := zN) hlt)
                      have HKJ := Aside0.mk (show wrap64 ((j : Int) + 1) = ((j + 1 : Nat) : Int) by rw [wr_id (by omega) (by have := HLL.out; omega)]; rfl)
                      clear hk hkb hlt hj
                      generalize l.getD j zN = x at *
                      have hd1 : (dg x.f0.toNat).length ≤ 2 := dg_len (by have := HND.out; omega)
                      have hd2 : (dg x.f1.toNat).length ≤ 2 := dg_len (by have := HND.out; omega)
                      have HI1 := Aside0.mk (fun W => itoa_calls x.f0 (HND.out).1 (by have := HND.out; omega) W)
                      have HI2 := Aside0.mk (fun W => itoa_calls x.f1 (HND.out).2.2.1 (by have := HND.out; omega) W)
                      go_upto_region 25 with (fail)
                      have HSA := Aside0.mk ((HS.out).below (below_alloc (Below.refl _ _) (.cells #[.int .i64 x.f0, .int .i64 x.f1] 83)))
                      have k8 : (wr.alloc (.cells #[.int .i64 x.f0, .int .i64 x.f1] 83)).cell? ⟨wr.heap.size, 0, none⟩ = some (.int .i64 x.f0) := (blk_cell (blk_new wr _) 0).trans rfl
                      have k9 : (wr.alloc (.cells #[.int .i64 x.f0, .int .i64 x.f1] 83)).cell? ⟨wr.heap.size, 1, none⟩ = some (.int .i64 x.f1) := (blk_cell (blk_new wr _) 1).trans rfl
                      clear hk2 hk3 HS
                      generalize wr.alloc (.cells #[.int .i64 x.f0, .int .i64 x.f1] 83) = W8 at *
                      refine wp_region_still_tail 9 (by kernel_rfl) (by kernel_rfl) ?_
                      simp only [List.take_succ_cons, List.take_zero, List.drop_succ_cons, List.drop_zero]
                      repeat (refine wpStill_step (fun K hK => ?_); go_simp; (first | refine hK _ ?_ | (rw [if_neg (by omega)]; go_simp; refine hK _ ?_)); clear hK K)
                      still_call (HI1.out _)
                      repeat (refine wpStill_step (fun K hK => ?_); go_simp; (first | refine hK _ ?_ | (rw [if_neg (by omega)]; go_simp; refine hK _ ?_)); clear hK K)
                      still_call (HI2.out _)
                      repeat (refine wpStill_step (fun K hK => ?_); go_simp; (first | refine hK _ ?_ | (rw [if_neg (by omega)]; go_simp; refine hK _ ?_)); clear hK K)
                      refine wpStill_nil ?_
                      change wpList _ _ _ _ _ W8.drew
                      have HSd := Aside0.mk ((HSA.out).below (below_drew (Below.refl _ _)))
                      clear k8 k9 HSA HI1 HI2
                      generalize W8.drew = W5 at *
                      have HA6 := Aside0.mk (show (acc ++ needT x) ++ ((l.drop (j + 1)).flatMap needT ++ ([10] ++ ((alts.drop (i + 1)).flatMap (altT q f) ++ (rowT q (f + 1) (row.drop (f + 1)) ++ movT (q + 1) (M.drop (q + 1)))))) = putL rk st M by rw [← HA.out, HDJ.out]; simp)
                      have HLA6 := Aside0.mk (show (acc).length + (needT x).length ≤ 1000000 by
                        have h1 := HLN.out
                        rw [← HA6.out, List.length_append, List.length_append] at h1
                        omega)
                      have HWS6 := Aside0.mk (fun (s : ByteArray) (hs : s.data.toList = needT x) => ws_calls b (acc) s _ _ (HSd.out).bb hs (by have := HLA6.out; omega) (HSd.out).hbw)
                      go_wp2_with fail
                      refine ((HWS6.out) _ ?_).mono ?_
                      · first | rfl | (unfold needT; simp; done) | (unfold needT; simp; rfl)
                      rintro E W6 ⟨rfl, hB, hb⟩
                      have HS6 := Aside0.mk ((HSd.out).write hb hB)
                      clear hB hb HWS6 HLA6
                      go_wp2
                      go_roundg (l.length - (j + 1))
                      case measure => have := HLJ.out; omega
                      case rel => exact ⟨j + 1, _, HLJ.out, Nat.le_refl _, by rw [HKJ.out], HS6, HA6⟩
                    · obtain rfl : j = l.length := by omega
                      have HA8 := Aside0.mk (show (acc ++ [10]) ++ ((alts.drop (i + 1)).flatMap (altT q f) ++ (rowT q (f + 1) (row.drop (f + 1)) ++ movT (q + 1) (M.drop (q + 1)))) = putL rk st M by rw [← HA.out, List.drop_length]; simp)
                      have HLA8 := Aside0.mk (show acc.length + 1 ≤ 1000000 by
                        have h1 := HLN.out
                        rw [← HA8.out, List.length_append, List.length_append, List.length_singleton] at h1
                        omega)
                      have HWB := Aside0.mk (wb_calls b acc wr (HS.out).bb (by have := HLA8.out; omega) (HS.out).hbw)
                      clear HA hj hgg hlt
                      go_wp2_with fail
                      refine (HWB.out).mono ?_
                      rintro E W8 ⟨rfl, hB, hb⟩
                      have HS8 := Aside0.mk ((HS.out).write hb hB)
                      clear hB hb
                      go_wp2
                      go_roundg (alts.length - (i + 1))
                      case measure => have := HLI.out; omega
                      case rel => exact ⟨i + 1, _, HLI.out, Nat.le_refl _, by rw [HKI.out], HS8, HA8⟩
                · obtain rfl : i = alts.length := by omega
                  have HA9 := Aside0.mk (show acc ++ (rowT q (f + 1) (row.drop (f + 1)) ++ movT (q + 1) (M.drop (q + 1))) = putL rk st M by rw [← HA.out, List.drop_length]; simp)
                  clear HA hi hgg hlt
                  go_wp2
                  go_roundg (row.length - (f + 1))
                  case measure => have := HLF.out; omega
                  case rel => exact ⟨f + 1, _, HLF.out, Nat.le_refl _, by rw [HKF.out], HS, HA9⟩
            · obtain rfl : f = row.length := by omega
              have HA9 := Aside0.mk (show acc ++ movT (q + 1) (M.drop (q + 1)) = putL rk st M by rw [← HA.out, List.drop_length]; simp [rowT])
              clear HA hf hgg hlt
              go_wp2
              go_roundg (M.length - (q + 1))
              case measure => have := HLT.out; omega
              case rel => exact ⟨q + 1, _, HLT.out, Nat.le_refl _, by rw [HKQ.out], HS, HA9⟩
        · obtain rfl : q = M.length := by omega
          have HACC := Aside0.mk (show acc = putL rk st M by rw [← HA.out, List.drop_length]; simp [movT])
          have HLEN := Aside0.mk (show Calls Tryz.prog 55 #[.pointer (some ⟨b, 0, none⟩)] wr fun e w' => e = .returned (.int .i64 (acc.length : Int)) ∧ w' = wr from by
            have h := Tryz.Builder_Len b b (Lib.byteCells acc) wr (HS.out).bb
            rw [byteCells_len] at h
            exact h)
          have HSTR := Aside0.mk (Tryz.Builder_String_any b b acc wr (HS.out).bb (HS.out).hbw)
          rw [← HACC.out] at HPR
          clear HA hq hgg hlt
          go_wp2_with fail
          refine (HLEN.out).mono ?_
          rintro E W0 ⟨rfl, rfl⟩
          cases q1 : decide ((acc.length : Int) > 65536) with
          | true =>
            have HP := Aside0.mk (show putR rk st M = ([], 3) by rw [HPR.out, if_pos (by have := of_decide_eq_true q1; omega)])
            go_wp2
            go_ret2
            exact ⟨by rw [HP.out]; rfl, (HS.out).hb⟩
          | false =>
            have HP := Aside0.mk (show putR rk st M = (acc, 0) by rw [HPR.out, if_neg (by have := of_decide_eq_false q1; omega)])
            go_wp2_with fail
            refine (HSTR.out).mono ?_
            rintro E W9 ⟨rfl, hb⟩
            have HB9 := Aside0.mk (Below.trans (HS.out).hb (Below.mono hb (Nat.le_of_lt (HS.out).hlt)))
            clear hb
            go_wp2
            go_ret2
            exact ⟨by rw [HP.out]; rfl, HB9.out⟩
end Go.Proofs.YtbmcigakiibncaaGreatDoor.H
namespace Go.Proofs.YtbmcigakiibncaaGreatDoor.H
open Go.RowKit Go.Proofs.YtbmcigakiibncaaGreatDoorW.PrintWords Go.Proofs.YtbmcigakiibncaaGreatDoorW.PrintLast Go.Proofs.YtbmcigakiibncaaGreatDoorW.PrintMore
set_option linter.unusedVariables false
set_option linter.unusedSimpArgs false
structure TX (w : World) (x y z : Value) (W : World) : Prop where
  hb : Below w.heap.size w W
  box : W.heap[w.heap.size]? = some (.cells #[x, y, z] 25 (0, 0))
theorem TX.below {w W W1 : World} {x y z : Value} (h : TX w x y z W) (hb : Below W.heap.size W W1) : TX w x y z W1 :=
  ⟨below_then h.hb h.hb.size hb, blk_below h.box hb⟩
end Go.Proofs.YtbmcigakiibncaaGreatDoor.H
namespace Go.Proofs.YtbmcigakiibncaaGreatDoor.H
open Go.RowKit Go.Proofs.YtbmcigakiibncaaGreatDoorW.PrintWords Go.Proofs.YtbmcigakiibncaaGreatDoorW.PrintLast Go.Proofs.YtbmcigakiibncaaGreatDoorW.PrintMore
set_option linter.unusedVariables false
set_option linter.unusedSimpArgs false
theorem rcompare_calls (A : Option Addr) (c : Nat) (a : List Nd) (B : Option Addr) (d : Nat) (b : List Nd) (w : World) (hA : Kd.C Q.k83 w A a.length a) (hc : a.length ≤ c) (hB : Kd.C Q.k83 w B b.length b) (hd : b.length ≤ d) :
    Calls Tryz.prog 94 #[.slice A a.length c, .slice B b.length d] w fun e w' => e = .returned (.int .i64 (sgI (cmpL a b))) ∧ Below w.heap.size w w' := by
  obtain ⟨k, hk⟩ := (compareF_ev a b hA.2.1).rounds
  exact Q.virgationref09_Compare.calls k A c a B d b _ w hA hc hB hd hk
theorem ranksR_calls (A : Option Addr) (c : Nat) (l : List Int) (w : World) (hr : Kd.C (Kd.int .i64) w A l.length l) (hc : l.length ≤ c) : Calls Tryz.prog 46 #[.slice A l.length c] w fun e w' => e = .returned (.bool (ranksB l)) ∧ Below w.heap.size w w' := by
  obtain ⟨k, hk⟩ := (ranks6_ev l hr.2.1).rounds
  exact (Q.virgationref06_Ranks.calls k A c l _ w hr hc hk).mono fun e w' h => ⟨h.1, by first | exact h.2 | exact h.2.below⟩
theorem altsB_false {r n : Int} {l : List (List Nd)} {j : Nat} (hj : j < l.length) (h : altLAt l r n j = false) : altsB r n l = false := by
  cases e : altsB r n l with
  | false => rfl
  | true =>
    unfold altsB at e
    rw [Bool.and_eq_true, allF_iff] at e
    rw [e.2 j (Nat.zero_le _) (by omega)] at h; cases h
theorem altsB_true {r n : Int} {l : List (List Nd)} (hl : l.length ≤ 12) (h : ∀ i, i < l.length → altLAt l r n i = true) : altsB r n l = true := by
  unfold altsB
  rw [Bool.and_eq_true, allF_iff]
  exact ⟨decide_eq_true hl, fun i _ hi => h i (by omega)⟩
theorem altLAt_bad {l : List (List Nd)} {r n : Int} {j : Nat} (h : altB r n (l.getD j []) = false) : altLAt l r n j = false := by unfold altLAt; rw [h]; rfl
theorem altLAt_zero {l : List (List Nd)} {r n : Int} (h : altB r n (l.getD 0 []) = true) : altLAt l r n 0 = true := by unfold altLAt; rw [h]; rfl
theorem altLAt_succ {l : List (List Nd)} {r n : Int} {i : Nat} (h : altB r n (l.getD (i + 1) []) = true) : altLAt l r n (i + 1) = decide (cmpL (l.getD i []) (l.getD (i + 1) []) < 0) := by unfold altLAt; rw [h]; simp
set_option maxHeartbeats 8000000 in
set_option maxRecDepth 100000 in
theorem altsR_calls (A : Option Addr) (c : Nat) (l : List (List Nd)) (r n : Int) (w : World) (hr : Kd.C kA1 w A l.length l) :
    Calls Tryz.prog 47 #[.slice A l.length c, .int .i64 r, .int .i64 n] w fun e w' => e = .returned (.bool (altsB r n l)) ∧ Below w.heap.size w w' := by
  have HR := Aside0.mk hr
  clear hr
  cases q : decide ((l.length : Int) > 12) with
  | true =>
    have HV := Aside0.mk (show altsB r n l = false by have := of_decide_eq_true q; unfold altsB; rw [decide_eq_false (by omega)]; rfl)
    go_enter Tryz.func47, Tryz.ntmps47
    go_wp2
    go_ret
    exact ⟨by rw [HV.out]; rfl, Below.refl _ _⟩
  | false =>
  have HL := Aside0.mk (show l.length ≤ 12 by have := of_decide_eq_false q; omega)
  go_enter Tryz.func47, Tryz.ntmps47
  go_wp2
  clear q
  go_loopg [14] l.length (fun gg v14 wi => ∃ j : Nat, j ≤ l.length ∧ l.length - j ≤ gg ∧ v14 = .int .i64 j ∧ Aside0 (Below w.heap.size w wi) ∧ Aside0 (∀ i, i < j → altLAt l r n i = true))
  case atStart => exact ⟨0, Nat.zero_le _, Nat.le_refl _, rfl, ⟨Below.refl _ _⟩, ⟨fun i hi => absurd hi (Nat.not_lt_zero _)⟩⟩
  case round =>
    obtain ⟨j, hj, hgg, rfl, HB, HP⟩ := hrel
    by_cases hlt : j < l.length
    · have hltz : (j : Int) < (l.length : Int) := by omega
      have HLT := Aside0.mk hlt
      have HKZ := Aside0.mk (show wrap64 ((j : Int) + 1) = ((j + 1 : Nat) : Int) by rw [wr_id (by omega) (by have := HL.out; omega)]; rfl)
      obtain ⟨ad, A1, c1, e, hk, hl1, hC1⟩ := at_sl HR.out j hlt
      subst e
      replace hk := pw_cell_below HB.out hk
      have HF := Aside0.mk (show altB r n (l.getD j []) = false → altsB r n l = false from fun h => altsB_false hlt (altLAt_bad h))
      have HZ := Aside0.mk (show j = 0 → altB r n (l.getD j []) = true → ∀ i, i < j + 1 → altLAt l r n i = true from fun h0 hnb i hi => by subst h0; rw [show i = 0 by omega]; exact altLAt_zero hnb)
      have HVF := Aside0.mk (show ∀ i, j = i + 1 → altB r n (l.getD j []) = true → ¬ cmpL (l.getD i []) (l.getD j []) < 0 → altsB r n l = false from fun i e hnb h => altsB_false hlt (by subst e; rw [altLAt_succ hnb]; exact decide_eq_false h))
      have HVT := Aside0.mk (show ∀ i, j = i + 1 → altB r n (l.getD j []) = true → cmpL (l.getD i []) (l.getD j []) < 0 → ∀ i', i' < j + 1 → altLAt l r n i' = true from fun i e hnb h i' hi' => by
          rcases Nat.lt_or_ge i' j with h2 | h2
          · exact HP.out i' h2
          · rw [show i' = j by omega]; subst e; rw [altLAt_succ hnb]; exact decide_eq_true h)
      have HC1 := Aside0.mk hC1
      have HL1 := Aside0.mk hl1
      clear HP hC1 hl1
      generalize l.getD j [] = x at *
      have HAL := Aside0.mk (altR_calls A1 c1 x r n wr (Kd.C_below (HC1.out) HB.out))
      go_wp2_with fail
      refine (HAL.out).mono ?_
      rintro E W2 ⟨rfl, hb⟩
      have HB2 := Aside0.mk (below_then HB.out (HB.out).size hb)
      clear hb hk HAL
      cases q1 : altB r n x with
      | false =>
        have HV := Aside0.mk (HF.out q1)
        clear q1
        go_wp2
        go_ret
        exact ⟨by rw [HV.out]; rfl, HB2.out⟩
      | true =>
      cases j with
      | zero =>
        have HT := Aside0.mk (HZ.out rfl q1)
        have q5 : decide (((0 : Nat) : Int) > 0) = false := by decide
        clear q1
        go_wp2
        go_roundg (l.length - (0 + 1))
        case measure => have := HLT.out; omega
        case rel => exact ⟨0 + 1, HLT.out, Nat.le_refl _, by first | rw [HKZ.out] | rfl, HB2, HT⟩
      | succ i =>
        obtain ⟨ad', A2, c2, e, hk, hl2, hC2⟩ := at_sl HR.out i (by omega)
        cases e
        replace hk := pw_cell_below (HB2.out) hk
        have HVF' := Aside0.mk (HVF.out i rfl q1)
        have HVT' := Aside0.mk (HVT.out i rfl q1)
        clear HF HVF HVT HZ q1
        generalize l.getD i [] = y at *
        have HBE := Aside0.mk (rcompare_calls A2 c2 y A1 c1 x W2 (Kd.C_below hC2 HB2.out) hl2 (Kd.C_below HC1.out HB2.out) HL1.out)
        generalize cmpL y x = v at *
        have HS := Aside0.mk (sgI_neg v)
        generalize sgI v = sv at *
        have q5 : decide (((i + 1 : Nat) : Int) > 0) = true := decide_eq_true (by omega)
        have q6 : wrap64 (((i + 1 : Nat) : Int) - 1) = (i : Int) := wrap_pred (by have := HL.out; have := HLT.out; omega)
        have q7 : (i : Int) < (l.length : Int) := by omega
        have q9 : (0 : Int) ≤ (i : Int) := by omega
        have q10 : wrap64 (i : Int) = (i : Int) := wr_id (by omega) (by have := HL.out; have := HLT.out; omega)
        have hwj : IntKind.i64.wrap (i : Int) = (i : Int) := by rw [i64_w]; exact q10
        go_wp2_with fail
        refine (HBE.out).mono ?_
        rintro E W3 ⟨rfl, hb⟩
        have HB3 := Aside0.mk (below_then HB2.out (HB2.out).size hb)
        clear hb hk
        cases q8 : decide (sv ≥ 0) with
        | true =>
          have HV := Aside0.mk (HVF'.out (by have h0 := HS.out; have h1 := of_decide_eq_true q8; have h2 : ¬ v < 0 := fun h => by { have := h0.2 h; omega }; omega))
          go_wp2
          go_ret
          exact ⟨by rw [HV.out]; rfl, (HB3.out)⟩
        | false =>
          have HV := Aside0.mk (HVT'.out ((HS.out).1 (by have := of_decide_eq_false q8; omega)))
          go_wp2
          go_roundg (l.length - (i + 1 + 1))
          case measure => have := HLT.out; omega
          case rel => exact ⟨i + 1 + 1, HLT.out, Nat.le_refl _, by first | rw [HKZ.out] | exact congrArg (Value.int .i64) HKZ.out, HB3, HV⟩
    · obtain rfl : j = l.length := by omega
      have HV := Aside0.mk (altsB_true HL.out HP.out)
      clear HP hlt hj hgg
      go_wp2
      go_ret
      exact ⟨by rw [HV.out]; rfl, HB.out⟩
theorem isR_unfold {rk : List Int} {st : Int} {M : Mv} : isR rk st M = (ranksB rk && decide (1 ≤ M.length) && decide (M.length ≤ 6) && decide (0 ≤ st) && decide (st < (M.length : Int)) && allF (fun q => rowR rk (M.length : Int) (M.getD q [])) 0 M.length) := rfl
theorem isR_row {rk : List Int} {st : Int} {M : Mv} {q : Nat} (hq : q < M.length) (h : rowR rk (M.length : Int) (M.getD q []) = false) : isR rk st M = false := by
  cases e : isR rk st M with
  | false => rfl
  | true =>
    rw [isR_unfold, Bool.and_eq_true, allF_iff] at e
    rw [e.2 q (Nat.zero_le _) (by omega)] at h; cases h
theorem rowR_len {rk : List Int} {n : Int} {row : List (List (List Nd))} (h : row.length ≠ rk.length) : rowR rk n row = false := by unfold rowR; rw [decide_eq_false h]; rfl
theorem rowR_at {rk : List Int} {n : Int} {row : List (List (List Nd))} {f : Nat} (hf : f < row.length) (h : altsB (rk.getD f 0) n (row.getD f []) = false) : rowR rk n row = false := by
  cases e : rowR rk n row with
  | false => rfl
  | true =>
    unfold rowR at e
    rw [Bool.and_eq_true, allF_iff] at e
    have := e.2 f (Nat.zero_le _) (by omega)
    rw [show rd rk (f : Int) = rk.getD f 0 by simp [rd], h] at this; cases this
theorem rowR_true {rk : List Int} {n : Int} {row : List (List (List Nd))} (hl : row.length = rk.length) (h : ∀ f, f < row.length → altsB (rk.getD f 0) n (row.getD f []) = true) : rowR rk n row = true := by
  unfold rowR
  rw [decide_eq_true hl, Bool.true_and, allF_iff]
  intro f _ hf
  rw [show rd rk (f : Int) = rk.getD f 0 by simp [rd]]
  exact h f (by omega)
set_option maxHeartbeats 8000000 in
set_option maxRecDepth 100000 in
theorem isA_calls (rk : List Int) (M : Mv) (st : Int) (A1 : Option Addr) (c1 : Nat) (A2 : Option Addr) (c2 : Nat) (w : World)
    (hr : Kd.C (Kd.int .i64) w A1 rk.length rk) (hc1 : rk.length ≤ c1) (hM : Kd.C kA3 w A2 M.length M) (hc2 : M.length ≤ c2) :
    Calls Tryz.prog 19 #[.agg #[.slice A1 rk.length c1, .int .i64 st, .slice A2 M.length c2]] w fun e w' => e = .returned (.bool (auB rk st M)) ∧ Below w.heap.size w w' := by
  rw [← isR_eq]
  have HR := Aside0.mk hr
  have HM := Aside0.mk hM
  have HRK := Aside0.mk fun W (hW : Below w.heap.size w W) => ranksR_calls A1 c1 rk W (Kd.C_below hr hW) hc1
  have HS := Aside0.mk (TX.mk (below_alloc (Below.refl w.heap.size w) (.cells #[.slice A1 rk.length c1, .int .i64 st, .slice A2 M.length c2] 25)) (blk_new w (.cells #[.slice A1 rk.length c1, .int .i64 st, .slice A2 M.length c2] 25)))
  clear hr hc1 hM hc2
  go_enter Tryz.func19, Tryz.ntmps19
  go_upto_region 1 with (fail)
  generalize w.alloc (.cells #[.slice A1 rk.length c1, .int .i64 st, .slice A2 M.length c2] 25) = W1 at *
  have k0 : W1.cell? ⟨w.heap.size, 0, none⟩ = some (.slice A1 rk.length c1) := (blk_cell (HS.out).box 0).trans rfl
  have k2 : W1.cell? ⟨w.heap.size, 2, none⟩ = some (.slice A2 M.length c2) := (blk_cell (HS.out).box 2).trans rfl
  go_wp2_with fail
  refine (HRK.out _ (HS.out).hb).mono ?_
  rintro E W2 ⟨rfl, hb⟩
  have HS2 := Aside0.mk ((HS.out).below hb)
  clear hb HS HRK k0 k2
  have k0 : W2.cell? ⟨w.heap.size, 0, none⟩ = some (.slice A1 rk.length c1) := (blk_cell (HS2.out).box 0).trans rfl
  have k1 : W2.cell? ⟨w.heap.size, 1, none⟩ = some (.int .i64 st) := (blk_cell (HS2.out).box 1).trans rfl
  have k2 : W2.cell? ⟨w.heap.size, 2, none⟩ = some (.slice A2 M.length c2) := (blk_cell (HS2.out).box 2).trans rfl
  cases q0 : ranksB rk with
  | false =>
    have HV := Aside0.mk (show isR rk st M = false by rw [isR_unfold, q0]; rfl)
    clear q0
    go_wp2
    go_ret
    exact ⟨by rw [HV.out]; rfl, (HS2.out).hb⟩
  | true =>
  have HR0 := Aside0.mk q0
  clear q0
  cases q1 : decide ((M.length : Int) < 1) with
  | true =>
    have HV := Aside0.mk (show isR rk st M = false by have := of_decide_eq_true q1; rw [isR_unfold, decide_eq_false (show ¬ 1 ≤ M.length by omega)]; simp)
    go_wp2
    go_ret
    exact ⟨by rw [HV.out]; rfl, (HS2.out).hb⟩
  | false =>
  cases q2 : decide ((M.length : Int) > 6) with
  | true =>
    have HV := Aside0.mk (show isR rk st M = false by have := of_decide_eq_true q2; rw [isR_unfold, decide_eq_false (show ¬ M.length ≤ 6 by omega)]; simp)
    go_wp2
    go_ret
    exact ⟨by rw [HV.out]; rfl, (HS2.out).hb⟩
  | false =>
  cases q3 : decide (st < 0) with
  | true =>
    have HV := Aside0.mk (show isR rk st M = false by have := of_decide_eq_true q3; rw [isR_unfold, decide_eq_false (show ¬ 0 ≤ st by omega)]; simp)
    go_wp2
    go_ret
    exact ⟨by rw [HV.out]; rfl, (HS2.out).hb⟩
  | false =>
  cases q4 : decide (st ≥ (M.length : Int)) with
  | true =>
    have HV := Aside0.mk (show isR rk st M = false by have := of_decide_eq_true q4; rw [isR_unfold, decide_eq_false (show ¬ st < (M.length : Int) by omega)]; simp)
    go_wp2
    go_ret
    exact ⟨by rw [HV.out]; rfl, (HS2.out).hb⟩
  | false =>
  have HN := Aside0.mk (show 1 ≤ M.length ∧ M.length ≤ 6 ∧ 0 ≤ st ∧ st < (M.length : Int) from by have := of_decide_eq_false q1; have := of_decide_eq_false q2; have := of_decide_eq_false q3; have := of_decide_eq_false q4; omega)
  have HRL := Aside0.mk (show rk.length ≤ 24 from by
    have h := HR0.out
    unfold ranksB at h
    simp only [Bool.and_eq_true, decide_eq_true_eq] at h
    omega)
  have HVT := Aside0.mk (show (∀ q, q < M.length → rowR rk (M.length : Int) (M.getD q []) = true) → isR rk st M = true from fun h => by
    obtain ⟨h1, h2, h3, h4⟩ := HN.out
    rw [isR_unfold, HR0.out, decide_eq_true h1, decide_eq_true h2, decide_eq_true h3, decide_eq_true h4, Bool.true_and, Bool.true_and, Bool.true_and, Bool.true_and, Bool.true_and, allF_iff]
    exact fun q _ hq => h q (by omega))
  have HVF := Aside0.mk (show ∀ q, q < M.length → rowR rk (M.length : Int) (M.getD q []) = false → isR rk st M = false from fun q hq h => isR_row hq h)
  go_wp2
  clear k0 k1 k2 q1 q2 q3 q4
  go_loopg [37] M.length (fun gg v37 wi => ∃ q : Nat, q ≤ M.length ∧ M.length - q ≤ gg ∧ v37 = .int .i64 q ∧ Aside0 (TX w (.slice A1 rk.length c1) (.int .i64 st) (.slice A2 M.length c2) wi) ∧ Aside0 (∀ i, i < q → rowR rk (M.length : Int) (M.getD i []) = true))
  case atStart => exact ⟨0, Nat.zero_le _, Nat.le_refl _, rfl, HS2, ⟨fun i hi => absurd hi (Nat.not_lt_zero _)⟩⟩
  case round =>
    clear HS2
    obtain ⟨q, hq, hgg, rfl, HS, HP⟩ := hrel
    by_cases hlt : q < M.length
    · have hltz : (q : Int) < (M.length : Int) := by omega
      have HLT := Aside0.mk hlt
      have HKQ := Aside0.mk (show wrap64 ((q : Int) + 1) = ((q + 1 : Nat) : Int) by rw [wr_id (by omega) (by have := HN.out; omega)]; rfl)
      obtain ⟨ad, A3, c3, e, hk, hl3, hC3⟩ := at_sl HM.out q hlt
      subst e
      replace hk := pw_cell_below (HS.out).hb hk
      have HF := Aside0.mk (HVF.out q hlt)
      have HT := Aside0.mk (show rowR rk (M.length : Int) (M.getD q []) = true → ∀ i, i < q + 1 → rowR rk (M.length : Int) (M.getD i []) = true from fun h i hi => by
        rcases Nat.lt_or_ge i q with h2 | h2
        · exact HP.out i h2
        · rw [show i = q by omega]; exact h)
      have HC3 := Aside0.mk hC3
      have k0 : wr.cell? ⟨w.heap.size, 0, none⟩ = some (.slice A1 rk.length c1) := (blk_cell (HS.out).box 0).trans rfl
      clear hC3 hl3 HP hlt hq
      generalize M.getD q [] = row at *
      cases q5 : ((row.length : Int) != (rk.length : Int)) with
      | true =>
        have HV := Aside0.mk (HF.out (rowR_len (by have : ¬ (row.length : Int) = (rk.length : Int) := by simpa using q5
                                                   omega)))
        go_wp2
        go_ret
        exact ⟨by rw [HV.out]; rfl, (HS.out).hb⟩
      | false =>
      have HRW := Aside0.mk (show row.length = rk.length by have : (row.length : Int) = (rk.length : Int) := by simpa using q5
                                                            omega)
      go_wp2
      clear hk k0 q5 hltz
      go_loopg [49] row.length (fun gg v49 wi => ∃ f : Nat, f ≤ row.length ∧ row.length - f ≤ gg ∧ v49 = .int .i64 f ∧ Aside0 (TX w (.slice A1 rk.length c1) (.int .i64 st) (.slice (some ad) M.length c2) wi) ∧ Aside0 (∀ i, i < f → altsB (rk.getD i 0) (M.length : Int) (row.getD i []) = true))
      case atStart => exact ⟨0, Nat.zero_le _, Nat.le_refl _, rfl, HS, ⟨fun i hi => absurd hi (Nat.not_lt_zero _)⟩⟩
      case round =>
        clear HS
        obtain ⟨f, hf, hgg, rfl, HS, HP⟩ := hrel
        by_cases hlt : f < row.length
        · have hltz : (f : Int) < (row.length : Int) := by omega
          have hltr : (f : Int) < (rk.length : Int) := by have := HRW.out; omega
          have HLF := Aside0.mk hlt
          have HKF := Aside0.mk (show wrap64 ((f : Int) + 1) = ((f + 1 : Nat) : Int) by rw [wr_id (by omega) (by have := HRW.out; have := HRL.out; omega)]; rfl)
          obtain ⟨ad4, A4, c4, e, hk, hl4, hC4⟩ := at_sl HC3.out f hlt
          subst e
          obtain ⟨ad5, e, hk5⟩ := at_int HR.out f (by have := HRW.out; omega)
          subst e
          replace hk := pw_cell_below (HS.out).hb hk
          replace hk5 := pw_cell_below (HS.out).hb hk5
          have HF4 := Aside0.mk (show altsB (rk.getD f 0) (M.length : Int) (row.getD f []) = false → isR rk st M = false from fun h => HF.out (rowR_at hlt h))
          have HT4 := Aside0.mk (show altsB (rk.getD f 0) (M.length : Int) (row.getD f []) = true → ∀ i, i < f + 1 → altsB (rk.getD i 0) (M.length : Int) (row.getD i []) = true from fun h i hi => by
            rcases Nat.lt_or_ge i f with h2 | h2
            · exact HP.out i h2
            · rw [show i = f by omega]; exact h)
          have HC4 := Aside0.mk hC4
          have k0 : wr.cell? ⟨w.heap.size, 0, none⟩ = some (.slice (some ad5) rk.length c1) := (blk_cell (HS.out).box 0).trans rfl
          clear hC4 hl4 HP hlt hf
          generalize row.getD f [] = al at *
          generalize rk.getD f 0 = r at *
          have HAL := Aside0.mk (altsR_calls A4 c4 al r (M.length : Int) wr (Kd.C_below (HC4.out) (HS.out).hb))
          go_wp2_with fail
          refine (HAL.out).mono ?_
          rintro E W2 ⟨rfl, hb⟩
          have HS2 := Aside0.mk ((HS.out).below hb)
          clear hb hk hk5 k0 HAL HS
          cases q1 : altsB r (M.length : Int) al with
          | false =>
            have HV := Aside0.mk (HF4.out q1)
            clear q1
            go_wp2
            go_ret
            exact ⟨by rw [HV.out]; rfl, (HS2.out).hb⟩
          | true =>
            have HT5 := Aside0.mk (HT4.out q1)
            clear q1
            go_wp2
            go_roundg (row.length - (f + 1))
            case measure => have := HLF.out; omega
            case rel => exact ⟨f + 1, HLF.out, Nat.le_refl _, by rw [HKF.out], HS2, HT5⟩
        · obtain rfl : f = row.length := by omega
          have HT6 := Aside0.mk (HT.out (rowR_true HRW.out HP.out))
          clear HP hlt hf hgg
          go_wp2
          go_roundg (M.length - (q + 1))
          case measure => have := HLT.out; omega
          case rel => exact ⟨q + 1, HLT.out, Nat.le_refl _, by rw [HKQ.out], HS, HT6⟩
    · obtain rfl : q = M.length := by omega
      have HV := Aside0.mk (HVT.out HP.out)
      clear HP hlt hq hgg
      go_wp2
      go_ret
      exact ⟨by rw [HV.out]; rfl, (HS.out).hb⟩
end Go.Proofs.YtbmcigakiibncaaGreatDoor.H
namespace Go.Proofs.YtbmcigakiibncaaGreatDoor.H
open Go.RowKit Go.Proofs.YtbmcigakiibncaaGreatDoorW.PrintWords Go.Proofs.YtbmcigakiibncaaGreatDoorW.PrintLast Go.Proofs.YtbmcigakiibncaaGreatDoorW.PrintMore
set_option linter.unusedVariables false
set_option linter.unusedSimpArgs false
def loopsOf : Code → List Code
  | .loop c => c :: loopsOf c
  | .seq a b => loopsOf a ++ loopsOf b
  | .block _ c => loopsOf c
  | .scope c => loopsOf c
  | .cond _ a b => loopsOf a ++ loopsOf b
  | _ => []
noncomputable def body26 : Code := ((Tryz.f26.body.map loopsOf).getD []).getD 2 .skip
theorem cutL_calls (l : List UInt8) (X : ByteArray) (c : UInt8) (W : World) (h : X.data.toList = l) (hs : X.size ≤ 70000) (hm : MX W) :
    Calls Tryz.prog 62 #[.string X, .string ⟨#[c]⟩] W fun e w' => e = .returned (.tuple #[.string ⟨(Lib.cut l [c]).1.toArray⟩, .string ⟨(Lib.cut l [c]).2.1.toArray⟩, .bool (Lib.cut l [c]).2.2]) ∧ Below W.heap.size W w' := by
  obtain ⟨m, hm⟩ := hm
  refine (Tryz.strings_Cut X ⟨#[c]⟩ m W (by omega) hm).mono ?_
  rintro e w' ⟨rfl, n, rfl⟩
  rw [h]
  exact ⟨rfl, pw_below_drewN (Below.refl _ _) n⟩
theorem gstep_bad {states : Int} {m : Nat} {s : ByteArray} {r : List ByteArray} {last : Int} {M : Mv} (h : (lnGo s && lnOk states m last s) = false) : gstep states m (s :: r) last M = none := by
  rw [gstep, h]; rfl
theorem gstep_alt {states : Int} {m : Nat} {s : ByteArray} {r : List ByteArray} {last : Int} {M : Mv} (hz : lnZ s = none) : gstep states m (s :: r) last M = none := by
  rw [gstep, hz]
  split <;> rfl
theorem gstep_go {states : Int} {m : Nat} {s : ByteArray} {r : List ByteArray} {last : Int} {M : Mv} {z : List Nd} (h : (lnGo s && lnOk states m last s) = true) (hz : lnZ s = some z) :
    gstep states m (s :: r) last M = gstep states m r (lnQ s * m + lnF s) (if lnQ s < M.length then addAlt M (lnQ s).toNat (lnF s).toNat z else M) := by
  rw [gstep, h, hz]; rfl
theorem num0_range {l : List UInt8} (h : numOk l = true) : 0 ≤ num0V l ∧ num0V l ≤ 1000000000 := num_nonneg (s := ⟨l.toArray⟩) h
theorem addAlt_cnt {M : Mv} {q f k : Nat} {z : List Nd} (hq : q < M.length) (hf : f < (M.getD q []).length) (h : ∀ a b, ((M.getD a []).getD b []).length ≤ k) : ∀ a b, (((addAlt M q f z).getD a []).getD b []).length ≤ k + 1 := by
  intro a b
  rw [addAlt_row hq]
  by_cases e : a = q
  · rw [if_pos e, setD hf]
    split
    · have := h q f
      rw [List.length_append, List.length_singleton]; omega
    · have := h q b; omega
  · rw [if_neg e]; have := h a b; omega
theorem size_toArray (l : List UInt8) : (⟨l.toArray⟩ : ByteArray).size = l.length := List.size_toArray
theorem mul_bound {q : Int} {m : Nat} (h0 : 0 ≤ q) (h1 : q ≤ 1000000000) (hm : m ≤ 65536) : 0 ≤ q * m ∧ q * m ≤ 65536000000000 := by
  refine ⟨Int.mul_nonneg h0 (by omega), ?_⟩
  have h2 : q * m ≤ 1000000000 * m := Int.mul_le_mul_of_nonneg_right h1 (by omega)
  omega
def tabT26 : Bool × List (List Nat × List Nat) := (true, [([], []), ([0], [0]), ([], []), ([1, 2], [1, 2]), ([3], [3]), ([], []), ([], []), ([6], [6]), ([], []), ([7, 8], [7, 8]), ([9], [9]), ([], []), ([10, 11], [10, 11]), ([12], [12]), ([], []), ([14], [14]), ([13, 15], [13, 15]), ([4, 5, 0, 1, 2, 3, 4, 5, 6, 7, 8, 9, 10, 11, 12, 13, 14, 15, 16], [4, 5]), ([17, 16, 16, 0, 1, 2, 3, 4, 5, 6, 7, 8, 9, 10, 11, 12, 13, 14, 15, 16], [16, 17])])
theorem tab26 : rtab .any (opsOf Tryz.f26 35) = tabT26 := by kernel_rfl
theorem bits26 : waitsOk tabT26.2 [0, 1, 0, 7, 15, 0, 0, 64, 0, 448, 960, 0, 4032, 8128, 0, 16384, 65472, 131071, 262143] = true := by kernel_rfl
set_option maxHeartbeats 16000000 in
set_option maxRecDepth 1000000 in
theorem loop26 (t : ByteArray) (w : World) (L wd : List ByteArray) (n N bl cp : Nat) (A : Option Addr) (c : Nat) (A2 : Option Addr) (c2 : Nat) (st states : Int) (K : Act → World → Prop) (wr : World) (M0 : Mv) (gs0 : List Nat) (uu0 : Nat → Nat → Value)
    (u0 u1 u4 u5 u6 u7 u10 u11 u12 u13 u14 u15 u16 u17 u18 u19 u20 u21 u22 u23 u24 u25 u26 u27 u28 u29 u30 u31 u32 u33 u34 u35 u36 u37 u38 u39 u40 u41 u42 u43 u44 u45 u46 u47 u48 u49 u50 u51 u52 u53 u54 u55 u56 u57 u58 u59 u60 u61 u62 u63 u64 u65 u66 u67 u68 u69 u70 u71 u72 u73 u74 u75 u76 u77 u78 u79 u80 u81 u82 u83 u84 u85 u86 u87 u88 u89 u90 u91 u92 u93 u94 u95 u96 u97 u98 u99 u100 u104 u105 u106 u107 u108 u109 u110 u111 u112 u113 u114 u115 u116 u117 u118 u119 u120 u121 u122 u123 u124 u125 u126 u127 u128 u129 u130 u131 u132 u133 u134 u135 u136 u137 u138 u139 u140 u141 u142 u143 u144 u145 u146 u147 u148 u149 u150 u151 u152 u153 u154 u155 u156 u157 u158 u159 u160 u161 u162 u163 u164 u165 u166 u167 u168 u169 u170 u171 u172 u173 u174 u175 u176 u177 u178 u179 u180 u181 u182 u183 u184 u185 u186 u187 u188 u189 u190 u191 : Value)
    (HSZ : Aside0 (t.size ≤ 65536)) (HM : Aside0 (MX w)) (HCS : Aside0 (∀ i, (L.getD i ByteArray.empty).size ≤ t.size)) (HWL : Aside0 (wd.length ≤ 65536)) (HNL : Aside0 (L.length = n + 3)) (HLN : Aside0 (n ≤ 65536)) (HN7 : Aside0 (N ≤ 7 ∧ N = (min states 7).toNat)) (HST : Aside0 (0 ≤ states ∧ states ≤ 1000000000)) (HML : Aside0 (M0.length = N)) (HCN : Aside0 (∀ a b, ((M0.getD a []).getD b []).length ≤ 0))
    (HG : Aside0 (GL w wr (.slice A wd.length c) (.int .i64 st) (.slice A2 N c2) bl L)) (HR : Aside0 (Kd.R (Kd.int .i64) 3 wr w.heap.size (fun k => w.heap.size + 2 ≤ k) (.slice A wd.length c) (wd.map valW))) (HMM : Aside0 (MM w.heap.size (w.heap.size + 2) wr (.slice A2 N c2) M0 wd.length gs0 uu0))
    (HV : Aside0 (getV t = (gstep states wd.length ((L.drop 2).take n) (-1) M0).map fun M => (wd.map valW, st, M)))
    (hK : Aside0 (∀ (u9 u11 u12 u13 u14 u15 u16 u17 u18 u19 u20 u103 u104 u105 u106 u107 u108 u109 u110 u111 u112 u113 u114 u115 u116 u117 u118 u119 u120 u121 u122 u123 u124 u125 u126 u127 u128 u129 u130 u131 u132 u133 u134 u135 u136 u137 u138 u139 u140 u141 u142 u143 u144 u145 u146 u147 u148 u149 u150 u151 u152 u153 u154 u155 u156 u157 u158 u159 u160 u161 u162 u163 u164 u165 u166 u167 u168 u169 u170 u171 u172 u173 u174 u175 u176 u177 u178 u179 u180 u181 u182 u183 u184 u185 u186 : Value) (W : World) (M : Mv) (gs : List Nat) (uu : Nat → Nat → Value), GL w W (.slice A wd.length c) (.int .i64 st) (.slice A2 N c2) bl L → Kd.R (Kd.int .i64) 3 W w.heap.size (fun k => w.heap.size + 2 ≤ k) (.slice A wd.length c) (wd.map valW) → MM w.heap.size (w.heap.size + 2) W (.slice A2 N c2) M wd.length gs uu → M.length = N → getV t = some (wd.map valW, st, M) →
      K { tmps := List.toArray (u0 :: u1 :: (.pointer (some ⟨w.heap.size, 0, none⟩)) :: (.pointer (some ⟨w.heap.size + 1, 0, none⟩)) :: u4 :: u5 :: u6 :: u7 :: (.int .i64 states) :: u9 :: u10 :: u11 :: u12 :: u13 :: u14 :: u15 :: u16 :: u17 :: u18 :: u19 :: u20 :: u21 :: u22 :: u23 :: u24 :: u25 :: u26 :: u27 :: u28 :: u29 :: u30 :: u31 :: u32 :: u33 :: u34 :: u35 :: u36 :: u37 :: u38 :: u39 :: u40 :: u41 :: u42 :: u43 :: u44 :: u45 :: u46 :: u47 :: u48 :: u49 :: u50 :: u51 :: u52 :: u53 :: u54 :: u55 :: u56 :: u57 :: u58 :: u59 :: u60 :: u61 :: u62 :: u63 :: u64 :: u65 :: u66 :: u67 :: u68 :: u69 :: u70 :: u71 :: u72 :: u73 :: u74 :: u75 :: u76 :: u77 :: u78 :: u79 :: u80 :: u81 :: u82 :: u83 :: u84 :: u85 :: u86 :: u87 :: u88 :: u89 :: u90 :: u91 :: u92 :: u93 :: u94 :: u95 :: u96 :: u97 :: u98 :: u99 :: u100 :: (.slice (some ⟨bl, 2, none⟩) n cp) :: (.int .i64 (n : Int)) :: u103 :: u104 :: u105 :: u106 :: u107 :: u108 :: u109 :: u110 :: u111 :: u112 :: u113 :: u114 :: u115 :: u116 :: u117 :: u118 :: u119 :: u120 :: u121 :: u122 :: u123 :: u124 :: u125 :: u126 :: u127 :: u128 :: u129 :: u130 :: u131 :: u132 :: u133 :: u134 :: u135 :: u136 :: u137 :: u138 :: u139 :: u140 :: u141 :: u142 :: u143 :: u144 :: u145 :: u146 :: u147 :: u148 :: u149 :: u150 :: u151 :: u152 :: u153 :: u154 :: u155 :: u156 :: u157 :: u158 :: u159 :: u160 :: u161 :: u162 :: u163 :: u164 :: u165 :: u166 :: u167 :: u168 :: u169 :: u170 :: u171 :: u172 :: u173 :: u174 :: u175 :: u176 :: u177 :: u178 :: u179 :: u180 :: u181 :: u182 :: u183 :: u184 :: u185 :: u186 :: u187 :: u188 :: u189 :: u190 :: u191 :: []), defers := [{ target := .fn (.func 58) #[.pointer (some ⟨w.heap.size, 0, none⟩), .pointer (some ⟨w.heap.size + 1, 0, none⟩)], args := #[] }] } W)) :
    Code.wp Tryz.prog (Code.loop body26) (Exit.inBlock 4 (Exit.then K (bodyPostD Tryz.prog Tryz.f26 (GetE t w)))) { tmps := List.toArray (u0 :: u1 :: (.pointer (some ⟨w.heap.size, 0, none⟩)) :: (.pointer (some ⟨w.heap.size + 1, 0, none⟩)) :: u4 :: u5 :: u6 :: u7 :: (.int .i64 states) :: (.int .i64 (-1)) :: u10 :: u11 :: u12 :: u13 :: u14 :: u15 :: u16 :: u17 :: u18 :: u19 :: u20 :: u21 :: u22 :: u23 :: u24 :: u25 :: u26 :: u27 :: u28 :: u29 :: u30 :: u31 :: u32 :: u33 :: u34 :: u35 :: u36 :: u37 :: u38 :: u39 :: u40 :: u41 :: u42 :: u43 :: u44 :: u45 :: u46 :: u47 :: u48 :: u49 :: u50 :: u51 :: u52 :: u53 :: u54 :: u55 :: u56 :: u57 :: u58 :: u59 :: u60 :: u61 :: u62 :: u63 :: u64 :: u65 :: u66 :: u67 :: u68 :: u69 :: u70 :: u71 :: u72 :: u73 :: u74 :: u75 :: u76 :: u77 :: u78 :: u79 :: u80 :: u81 :: u82 :: u83 :: u84 :: u85 :: u86 :: u87 :: u88 :: u89 :: u90 :: u91 :: u92 :: u93 :: u94 :: u95 :: u96 :: u97 :: u98 :: u99 :: u100 :: (.slice (some ⟨bl, 2, none⟩) n cp) :: (.int .i64 (n : Int)) :: (.int .i64 0) :: u104 :: u105 :: u106 :: u107 :: u108 :: u109 :: u110 :: u111 :: u112 :: u113 :: u114 :: u115 :: u116 :: u117 :: u118 :: u119 :: u120 :: u121 :: u122 :: u123 :: u124 :: u125 :: u126 :: u127 :: u128 :: u129 :: u130 :: u131 :: u132 :: u133 :: u134 :: u135 :: u136 :: u137 :: u138 :: u139 :: u140 :: u141 :: u142 :: u143 :: u144 :: u145 :: u146 :: u147 :: u148 :: u149 :: u150 :: u151 :: u152 :: u153 :: u154 :: u155 :: u156 :: u157 :: u158 :: u159 :: u160 :: u161 :: u162 :: u163 :: u164 :: u165 :: u166 :: u167 :: u168 :: u169 :: u170 :: u171 :: u172 :: u173 :: u174 :: u175 :: u176 :: u177 :: u178 :: u179 :: u180 :: u181 :: u182 :: u183 :: u184 :: u185 :: u186 :: u187 :: u188 :: u189 :: u190 :: u191 :: []), defers := [{ target := .fn (.func 58) #[.pointer (some ⟨w.heap.size, 0, none⟩), .pointer (some ⟨w.heap.size + 1, 0, none⟩)], args := #[] }] } wr := by
  conv => arg 2; arg 1; whnf
  go_loopg [103, 9] n (fun gg v103 v9 wi => ∃ (k : Nat) (last : Int) (M : Mv) (gs : List Nat) (uu : Nat → Nat → Value), k ≤ n ∧ n - k ≤ gg ∧ v103 = .int .i64 k ∧ v9 = .int .i64 last ∧ Aside0 (GL w wi (.slice A wd.length c) (.int .i64 st) (.slice A2 N c2) bl L) ∧ Aside0 (Kd.R (Kd.int .i64) 3 wi w.heap.size (fun k => w.heap.size + 2 ≤ k) (.slice A wd.length c) (wd.map valW)) ∧ Aside0 (MM w.heap.size (w.heap.size + 2) wi (.slice A2 N c2) M wd.length gs uu) ∧ Aside0 (M.length = N) ∧ Aside0 (getV t = (gstep states wd.length (((L.drop 2).take n).drop k) last M).map fun M => (wd.map valW, st, M)) ∧ Aside0 (-1 ≤ last ∧ last ≤ 70000000000000) ∧ Aside0 (∀ a b, ((M.getD a []).getD b []).length ≤ k))
  case atStart => exact ⟨0, -1, M0, gs0, uu0, Nat.zero_le _, Nat.le_refl _, rfl, rfl, HG, HR, HMM, HML, HV, ⟨by omega⟩, HCN⟩
  case round =>
    clear HG HR HMM HML HV HCN
    obtain ⟨k, last, M, gs, uu, hk, hgg, rfl, rfl, HG, HR, HMM, HML, HV, HLA, HCN⟩ := hrel
    by_cases hlt : k < n
    · have hltz : (k : Int) < (n : Int) := by omega
      have HLT := Aside0.mk hlt
      have hk := strs_cell (HG.out).l (show 2 + k < L.length by rw [HNL.out]; omega)
      have HS1Z := Aside0.mk (HCS.out (2 + k))
      have HDR := Aside0.mk (show ((L.drop 2).take n).drop k = L.getD (2 + k) ByteArray.empty :: ((L.drop 2).take n).drop (k + 1) from by
        have hl : k < ((L.drop 2).take n).length := by rw [List.length_take, List.length_drop, HNL.out]; omega
        rw [List.drop_eq_getElem_cons hl]
        congr 1
        have h2 : 2 + k < L.length := by rw [HNL.out]; omega
        simp [List.getD_eq_getElem?_getD, h2])
      generalize L.getD (2 + k) ByteArray.empty = s at *
      have HBAD := Aside0.mk (fun (h : (lnGo s && lnOk states wd.length last s) = false) => (show getV t = none by rw [HV.out, HDR.out, gstep_bad h]; rfl))
      have HBZ := Aside0.mk (fun (h : lnZ s = none) => (show getV t = none by rw [HV.out, HDR.out, gstep_alt h]; rfl))
      have HSL := Aside0.mk (show s.data.toList.length ≤ 65536 from by rw [← Lib.size_eq]; have := HS1Z.out; have := HSZ.out; omega)
      have HC1 := Aside0.mk (cutL_calls s.data.toList s 58 wr rfl (by rw [Lib.size_eq]; have := HSL.out; omega) ((HM.out).below (HG.out).g.hb))
      have HAT := Aside0.mk (show lnAt s = Lib.cut s.data.toList [58] from rfl)
      have HATZ := Aside0.mk (cut_size s.data.toList [58])
      generalize Lib.cut s.data.toList [58] = p1 at HC1 HAT HATZ
      obtain ⟨a1, r1, o1⟩ := p1
      have HA1Z := Aside0.mk (show a1.length ≤ 65536 from Nat.le_trans (HATZ.out).1 HSL.out)
      have HR1Z := Aside0.mk (show r1.length ≤ 65536 from Nat.le_trans (HATZ.out).2 HSL.out)
      clear HATZ
      go_wp2_with fail
      refine (HC1.out).mono ?_
      rintro E w4 ⟨rfl, hb⟩
      have HG4 := Aside0.mk ((HG.out).below hb)
      have HR4 := Aside0.mk (Kd.R_below HR.out hb)
      have HM4 := Aside0.mk ((HMM.out).below hb)
      clear hb HG HR HMM hk HC1
      have HC2 := Aside0.mk (cutL_calls a1 ⟨a1.toArray⟩ 32 w4 rfl (by rw [size_toArray]; have := HA1Z.out; omega) ((HM.out).below (HG4.out).g.hb))
      have HXY := Aside0.mk (show lnXY s = Lib.cut a1 [32] by unfold lnXY; rw [HAT.out])
      have HXYZ := Aside0.mk (cut_size a1 [32])
      generalize Lib.cut a1 [32] = p2 at HC2 HXY HXYZ
      obtain ⟨a2, r2, o2⟩ := p2
      have HA2Z := Aside0.mk (show a2.length ≤ 65536 from Nat.le_trans (HXYZ.out).1 HA1Z.out)
      have HR2Z := Aside0.mk (show r2.length ≤ 65536 from Nat.le_trans (HXYZ.out).2 HA1Z.out)
      clear HXYZ
      go_wp2_with fail
      refine (HC2.out).mono ?_
      rintro E w5 ⟨rfl, hb⟩
      have HG5 := Aside0.mk ((HG4.out).below hb)
      have HR5 := Aside0.mk (Kd.R_below HR4.out hb)
      have HM5 := Aside0.mk ((HM4.out).below hb)
      clear hb HG4 HR4 HM4 HC2
      cases o1 with
      | false =>
        have HN := Aside0.mk (HBAD.out (by unfold lnGo; rw [HAT.out]; rfl))
        go_wp2
        exact get_panic (getR_bad HSZ.out HN.out) (HG5.out).g _ rfl rfl
      | true =>
      cases o2 with
      | false =>
        have HN := Aside0.mk (HBAD.out (by unfold lnGo; rw [HXY.out, HAT.out]; rfl))
        go_wp2
        exact get_panic (getR_bad HSZ.out HN.out) (HG5.out).g _ rfl rfl
      | true =>
      have HN1 := Aside0.mk (show Calls Tryz.prog 61 #[.string ⟨a2.toArray⟩] w5 fun E w' => E = numE a2 ∧ Below w5.heap.size w5 w' from number_calls ⟨a2.toArray⟩ w5 (by rw [size_toArray]; have := HA2Z.out; omega))
      go_wp2_with fail
      refine (HN1.out).mono ?_
      rintro E w6 ⟨rfl, hb⟩
      have HG6 := Aside0.mk ((HG5.out).below hb)
      have HR6 := Aside0.mk (Kd.R_below HR5.out hb)
      have HM6 := Aside0.mk ((HM5.out).below hb)
      clear hb HG5 HR5 HM5 HN1
      cases q1 : numOk a2 with
      | false =>
        have HN := Aside0.mk (HBAD.out (by unfold lnGo; rw [HXY.out, HAT.out, q1]; rfl))
        rw [show numE a2 = pbad by unfold numE; rw [q1]; rfl]
        unfold pbad
        clear q1
        go_wp2
        exact get_panic (getR_bad HSZ.out HN.out) (HG6.out).g _ rfl rfl
      | true =>
      rw [show numE a2 = .returned (.int .i64 (num0V a2)) by unfold numE; rw [q1]; rfl]
      have HN2 := Aside0.mk (show Calls Tryz.prog 61 #[.string ⟨r2.toArray⟩] w6 fun E w' => E = numE r2 ∧ Below w6.heap.size w6 w' from number_calls ⟨r2.toArray⟩ w6 (by rw [size_toArray]; have := HR2Z.out; omega))
      have HQ1 := Aside0.mk q1
      clear q1
      go_wp2_with fail
      refine (HN2.out).mono ?_
      rintro E w7 ⟨rfl, hb⟩
      have HG7 := Aside0.mk ((HG6.out).below hb)
      have HR7 := Aside0.mk (Kd.R_below HR6.out hb)
      have HM7 := Aside0.mk ((HM6.out).below hb)
      clear hb HG6 HR6 HM6 HN2
      cases q2 : numOk r2 with
      | false =>
        have HN := Aside0.mk (HBAD.out (by unfold lnGo; rw [HXY.out, HAT.out, q2, HQ1.out]; rfl))
        rw [show numE r2 = pbad by unfold numE; rw [q2]; rfl]
        unfold pbad
        clear q2
        go_wp2
        exact get_panic (getR_bad HSZ.out HN.out) (HG7.out).g _ rfl rfl
      | true =>
      rw [show numE r2 = .returned (.int .i64 (num0V r2)) by unfold numE; rw [q2]; rfl]
      have HGO := Aside0.mk (show lnGo s = true by unfold lnGo; rw [HXY.out, HAT.out, q2, HQ1.out]; rfl)
      obtain ⟨qa, qb⟩ := num0_range HQ1.out
      obtain ⟨fa, fb⟩ := num0_range q2
      have HLQ := Aside0.mk (show lnQ s = num0V a2 by unfold lnQ; rw [HXY.out])
      have HLF := Aside0.mk (show lnF s = num0V r2 by unfold lnF; rw [HXY.out])
      clear q2 HQ1
      generalize num0V a2 = q at *
      generalize num0V r2 = f at *
      obtain ⟨ma, mb⟩ := mul_bound (m := wd.length) qa qb HWL.out
      obtain ⟨k0, k1, k2, k3⟩ := (HG7.out).g.cells
      obtain ⟨qm, hqm⟩ : ∃ x, q * (wd.length : Int) = x := ⟨_, rfl⟩
      rw [hqm] at ma mb
      have hm1 : wrap64 (q * (wd.length : Int)) = qm := by rw [hqm]; exact wr_id (by omega) (by omega)
      have HOKD := Aside0.mk (show lnOk states wd.length last s = !(decide (q ≥ states) || decide (f ≥ (wd.length : Int)) || decide (qm + f < last)) by unfold lnOk; rw [HLQ.out, HLF.out, hqm])
      have HQM := Aside0.mk (show lnQ s * (wd.length : Int) + lnF s = qm + f by rw [HLQ.out, HLF.out, hqm])
      clear hqm
      have hm2 : wrap64 (qm + f) = qm + f := wr_id (by omega) (by omega)
      have HBO := Aside0.mk (fun (h : (decide (q ≥ states) || decide (f ≥ (wd.length : Int)) || decide (qm + f < last)) = true) => HBAD.out (by rw [HOKD.out, h]; simp))
      cases t1 : decide (q ≥ states) with
      | true =>
        have HN := Aside0.mk (HBO.out (by rw [t1]; rfl))
        go_wp2
        exact get_panic (getR_bad HSZ.out HN.out) (HG7.out).g _ rfl rfl
      | false =>
      cases t2 : decide (f ≥ (wd.length : Int)) with
      | true =>
        have HN := Aside0.mk (HBO.out (by rw [t1, t2]; rfl))
        go_wp2
        exact get_panic (getR_bad HSZ.out HN.out) (HG7.out).g _ rfl rfl
      | false =>
      cases t3 : decide (qm + f < last) with
      | true =>
        have HN := Aside0.mk (HBO.out (by rw [t1, t2, t3]; rfl))
        go_wp2
        exact get_panic (getR_bad HSZ.out HN.out) (HG7.out).g _ rfl rfl
      | false =>
      have HOK := Aside0.mk (show (lnGo s && lnOk states wd.length last s) = true by rw [HGO.out, HOKD.out, t1, t2, t3]; rfl)
      have HAL := Aside0.mk (alternative_calls ⟨r1.toArray⟩ w7 (by rw [size_toArray]; have := HR1Z.out; omega) ((HM.out).below (HG7.out).g.hb))
      go_wp2_with fail
      have HFM := Aside0.mk (show f < (wd.length : Int) from by have := of_decide_eq_false t2; omega)
      clear t1 t2 t3
      refine (HAL.out).mono ?_
      rintro E w8 ⟨hb, ⟨hno, rfl⟩ | ⟨ys, v, hys, rfl, hRz⟩⟩
      · have HN := Aside0.mk (HBZ.out (show lnZ s = none by unfold lnZ; rw [HAT.out]; exact hno))
        have HG8 := Aside0.mk ((HG7.out).below hb)
        unfold pbad
        go_wp2
        exact get_panic (getR_bad HSZ.out HN.out) (HG8.out).g _ rfl rfl
      have HZ := Aside0.mk (show lnZ s = some ys by unfold lnZ; rw [HAT.out]; exact hys)
      have HG8 := Aside0.mk ((HG7.out).below hb)
      have HR8 := Aside0.mk (Kd.R_below HR7.out hb)
      have HM8 := Aside0.mk ((HM7.out).below hb)
      have H78 := Aside0.mk (show w.heap.size + 2 ≤ w7.heap.size ∧ w7.heap.size ≤ w8.heap.size from ⟨by have := blk_lt (HG7.out).l; have := (HG7.out).hbl; omega, hb.size⟩)
      have HRZ := Aside0.mk (Kd.R_lower hRz (show w.heap.size ≤ w7.heap.size by have := blk_lt (HG7.out).l; have := (HG7.out).hbl; omega))
      have HOLD := Aside0.mk (fun (a b : Nat) (ha : a < M.length) (hb' : b < wd.length) (kk : Nat) (hkk : (uu a b).ownBlock = some kk) => (ownBlock_typed ((HM7.out).alts a b ha hb') hkk).2)
      have HSTEP := Aside0.mk (show getV t = (gstep states wd.length (((L.drop 2).take n).drop (k + 1)) (qm + f) (if q < (M.length : Int) then addAlt M q.toNat f.toNat ys else M)).map fun M => (wd.map valW, st, M) by rw [HV.out, HDR.out, gstep_go HOK.out HZ.out, HQM.out, HLQ.out, HLF.out])
      have HKZ := Aside0.mk (show wrap64 ((k : Int) + 1) = ((k + 1 : Nat) : Int) by rw [wr_id (by omega) (by have := HLN.out; omega)]; rfl)
      obtain ⟨A3, c3, rfl⟩ := Kd.R_slice hRz
      clear hb hys hRz HG7 HR7 HM7 HAL HV HBAD HBZ HBO HOKD HOK HQM HLQ HLF HGO HZ HXY HAT HDR k0 k1 k2 k3
      obtain ⟨qn, rfl⟩ := Int.eq_ofNat_of_zero_le qa
      obtain ⟨fn, rfl⟩ := Int.eq_ofNat_of_zero_le fa
      have hfm : fn < wd.length := by have := HFM.out; omega
      obtain ⟨k0, k1, k2, k3⟩ := (HG8.out).g.cells
      have HLA2 := Aside0.mk (show -1 ≤ qm + (fn : Int) ∧ qm + (fn : Int) ≤ 70000000000000 from by omega)
      by_cases hqN : qn < N
      · have hqM : qn < M.length := by rw [HML.out]; exact hqN
        have HSTEP2 := Aside0.mk (show getV t = (gstep states wd.length (((L.drop 2).take n).drop (k + 1)) (qm + fn) (addAlt M qn fn ys)).map fun M => (wd.map valW, st, M) by rw [HSTEP.out, if_pos (by omega)]; rfl)
        obtain ⟨ab, cap, e1, r0, c0, f0, ⟨abc, hab⟩, ⟨gbc, hgb⟩, hgB⟩ := (HM8.out).at hqM hfm
        injection e1 with e1 e2 e3
        subst e1 e3
        have HAB := Aside0.mk hab
        have HGB := Aside0.mk hgb
        have HGBB := Aside0.mk hgB
        have HQM2 := Aside0.mk (And.intro hqM hfm)
        have HUB := Aside0.mk (HOLD.out qn fn hqM hfm)
        have HLM := Aside0.mk (show ((M.getD qn []).getD fn []).length ≤ 65536 from by have := HCN.out qn fn; have := HLN.out; omega)
        have HCN2 := Aside0.mk (addAlt_cnt (z := ys) hqM (by rw [((HM8.out).rows qn hqM).2.2]; exact hfm) HCN.out)
        obtain ⟨A4, c4, e4⟩ := Kd.R_slice ((HM8.out).alts qn fn hqM hfm)
        rw [e4] at c0
        have HE4 := Aside0.mk e4
        have hqNz : (qn : Int) < (N : Int) := by omega
        clear hab hgb hgB hqM e2 e4 HOLD HCN
        have hbD := below_drew (Below.refl w8.heap.size w8)
        have HGA := Aside0.mk ((HG8.out).below hbD)
        have HRA := Aside0.mk (Kd.R_below HR8.out hbD)
        have HMA := Aside0.mk ((HM8.out).below hbD)
        have HRZA := Aside0.mk (Kd.R_below HRZ.out hbD)
        have HALT := Aside0.mk (show kA1.R 69 w8.drew w.heap.size (fun k => w.heap.size + 2 ≤ k) (.slice A4 ((M.getD qn []).getD fn []).length c4) ((M.getD qn []).getD fn []) from by rw [← HE4.out]; exact (HMA.out).alts qn fn (HQM2.out).1 (HQM2.out).2)
        have HUB2 := Aside0.mk (show ∀ kk, (Value.slice A4 ((M.getD qn []).getD fn []).length c4).ownBlock = some kk → kk < w7.heap.size from by rw [← HE4.out]; exact HUB.out)
        have HABD := Aside0.mk (blk_below HAB.out hbD)
        have HGBD := Aside0.mk (blk_below HGB.out hbD)
        have HRD := Aside0.mk (pw_cell_below hbD r0)
        have HCD := Aside0.mk (pw_cell_below hbD c0)
        have HBLG := Aside0.mk (types_ne (HGA.out).l HGBD.out (by decide))
        have HMAdd := Aside0.mk (fun v5 w5 h1 h2 h3 => (HMA.out).add (W1 := w5) (HQM2.out).1 (HQM2.out).2 ys v5 h1 h2 h3)
        rw [HE4.out] at HMAdd
        have HLEN := Aside0.mk (show ((M.getD qn []).getD fn []).length + 1 = ((M.getD qn []).getD fn [] ++ [ys]).length from by simp)
        clear hbD HUB HAB HGB
        generalize hgg0 : gs.getD qn 0 = g at *
        clear hgg0
        generalize hll : ((M.getD qn []).getD fn []).length = len at *
        have HLL := Aside0.mk hll
        clear hll
        go_upto_region 35 with (fail)
        refine wp_region_noPanic ?_
        refine start_ (n := 19) (S := fun w' => w'.cell? ⟨w.heap.size, 2, none⟩ = some (.slice (some ⟨ab, 0, none⟩) N c2) ∧ w'.cell? ⟨ab, qn, none⟩ = some (.slice (some ⟨g, 0, none⟩) wd.length wd.length) ∧ w'.cell? ⟨g, fn, none⟩ = some (.slice A4 len c4)) (ds := [18]) #[false, false, false, false, false, false, false, false, false, false, false, false, false, false, false, false, false, false, false] (by kernel_rfl) rfl rfl ⟨pw_cell_below (below_drew (Below.refl _ _)) k2, HRD.out, HCD.out⟩ (fun hHeld => ?_)
        refine with_tabW tab26 bits26 (fun HT_ HW_ => ?_)
        clear k0 k1 k2 k3 r0 c0 f0
        refine take_ (i := 0) (N := some 168) (v := ?_) (a' := ?_) #[true, false, false, false, false, false, false, false, false, false, false, false, false, false, false, false, false, false, false] rfl rfl (take_ofW HT_.out HW_.out (by kernel_rfl)) (fun _ _ _ h => h) (Or.inl ⟨by rfl, ?_⟩) hHeld ?_ ?_
        rotate_left
        · rintro w' ⟨s0, s1, s2⟩
          go_simp
          with_reducible rfl
        rotate_left
        · simp only [Act.put, List.setIfInBounds_toArray, List.set_cons_zero, List.set_cons_succ]
          rfl
        refine take_ (i := 1) (N := some 169) (v := ?_) (a' := ?_) #[true, true, false, false, false, false, false, false, false, false, false, false, false, false, false, false, false, false, false] rfl rfl (take_ofW HT_.out HW_.out (by kernel_rfl)) (fun _ _ _ h => h) (Or.inl ⟨by rfl, ?_⟩) hHeld ?_ ?_
        rotate_left
        · rintro w' ⟨s0, s1, s2⟩
          go_simp
          with_reducible rfl
        rotate_left
        · simp only [Act.put, List.setIfInBounds_toArray, List.set_cons_zero, List.set_cons_succ]
          rfl
        refine take_ (i := 2) (N := some 170) (v := ?_) (a' := ?_) #[true, true, true, false, false, false, false, false, false, false, false, false, false, false, false, false, false, false, false] rfl rfl (take_ofW HT_.out HW_.out (by kernel_rfl)) (fun _ _ _ h => h) (Or.inl ⟨by rfl, ?_⟩) hHeld ?_ ?_
        rotate_left
        · rintro w' ⟨s0, s1, s2⟩
          go_simp
          with_reducible rfl
        rotate_left
        · simp only [Act.put, List.setIfInBounds_toArray, List.set_cons_zero, List.set_cons_succ]
          rfl
        refine take_ (i := 3) (N := some 171) (v := ?_) (a' := ?_) #[true, true, true, true, false, false, false, false, false, false, false, false, false, false, false, false, false, false, false] rfl rfl (take_ofW HT_.out HW_.out (by kernel_rfl)) (fun _ _ _ h => h) (Or.inl ⟨by rfl, ?_⟩) hHeld ?_ ?_
        rotate_left
        · rintro w' ⟨s0, s1, s2⟩
          go_simp
          with_reducible rfl
        rotate_left
        · simp only [Act.put, List.setIfInBounds_toArray, List.set_cons_zero, List.set_cons_succ]
          rfl
        refine take_ (i := 4) (N := some 172) (v := ?_) (a' := ?_) #[true, true, true, true, true, false, false, false, false, false, false, false, false, false, false, false, false, false, false] rfl rfl (take_ofW HT_.out HW_.out (by kernel_rfl)) (fun _ _ _ h => h) (Or.inl ⟨by rfl, ?_⟩) hHeld ?_ ?_
        rotate_left
        · rintro w' ⟨s0, s1, s2⟩
          go_simp
          with_reducible rfl
        rotate_left
        · simp only [Act.put, List.setIfInBounds_toArray, List.set_cons_zero, List.set_cons_succ]
          rfl
        refine take_ (i := 5) (N := some 173) (v := ?_) (a' := ?_) #[true, true, true, true, true, true, false, false, false, false, false, false, false, false, false, false, false, false, false] rfl rfl (take_ofW HT_.out HW_.out (by kernel_rfl)) (fun _ _ _ h => h) (Or.inl ⟨by rfl, ?_⟩) hHeld ?_ ?_
        rotate_left
        · rintro w' ⟨s0, s1, s2⟩
          go_simp
          with_reducible rfl
        rotate_left
        · simp only [Act.put, List.setIfInBounds_toArray, List.set_cons_zero, List.set_cons_succ]
          rfl
        refine take_ (i := 6) (N := some 174) (v := ?_) (a' := ?_) #[true, true, true, true, true, true, true, false, false, false, false, false, false, false, false, false, false, false, false] rfl rfl (take_ofW HT_.out HW_.out (by kernel_rfl)) (fun _ _ _ h => h) (Or.inl ⟨by rfl, ?_⟩) hHeld ?_ ?_
        rotate_left
        · rintro w' ⟨s0, s1, s2⟩
          go_simp
          with_reducible rfl
        rotate_left
        · simp only [Act.put, List.setIfInBounds_toArray, List.set_cons_zero, List.set_cons_succ]
          rfl
        refine take_ (i := 7) (N := some 175) (v := ?_) (a' := ?_) #[true, true, true, true, true, true, true, true, false, false, false, false, false, false, false, false, false, false, false] rfl rfl (take_ofW HT_.out HW_.out (by kernel_rfl)) (fun _ _ _ h => h) (Or.inl ⟨by rfl, ?_⟩) hHeld ?_ ?_
        rotate_left
        · rintro w' ⟨s0, s1, s2⟩
          go_simp
          with_reducible rfl
        rotate_left
        · simp only [Act.put, List.setIfInBounds_toArray, List.set_cons_zero, List.set_cons_succ]
          rfl
        refine take_ (i := 8) (N := some 176) (v := ?_) (a' := ?_) #[true, true, true, true, true, true, true, true, true, false, false, false, false, false, false, false, false, false, false] rfl rfl (take_ofW HT_.out HW_.out (by kernel_rfl)) (fun _ _ _ h => h) (Or.inl ⟨by rfl, ?_⟩) hHeld ?_ ?_
        rotate_left
        · rintro w' ⟨s0, s1, s2⟩
          go_simp
          with_reducible rfl
        rotate_left
        · simp only [Act.put, List.setIfInBounds_toArray, List.set_cons_zero, List.set_cons_succ]
          rfl
        refine take_ (i := 9) (N := some 177) (v := ?_) (a' := ?_) #[true, true, true, true, true, true, true, true, true, true, false, false, false, false, false, false, false, false, false] rfl rfl (take_ofW HT_.out HW_.out (by kernel_rfl)) (fun _ _ _ h => h) (Or.inl ⟨by rfl, ?_⟩) hHeld ?_ ?_
        rotate_left
        · rintro w' ⟨s0, s1, s2⟩
          go_simp
          with_reducible rfl
        rotate_left
        · simp only [Act.put, List.setIfInBounds_toArray, List.set_cons_zero, List.set_cons_succ]
          rfl
        refine take_ (i := 10) (N := some 178) (v := ?_) (a' := ?_) #[true, true, true, true, true, true, true, true, true, true, true, false, false, false, false, false, false, false, false] rfl rfl (take_ofW HT_.out HW_.out (by kernel_rfl)) (fun _ _ _ h => h) (Or.inl ⟨by rfl, ?_⟩) hHeld ?_ ?_
        rotate_left
        · rintro w' ⟨s0, s1, s2⟩
          go_simp
          with_reducible rfl
        rotate_left
        · simp only [Act.put, List.setIfInBounds_toArray, List.set_cons_zero, List.set_cons_succ]
          rfl
        refine take_ (i := 11) (N := some 179) (v := ?_) (a' := ?_) #[true, true, true, true, true, true, true, true, true, true, true, true, false, false, false, false, false, false, false] rfl rfl (take_ofW HT_.out HW_.out (by kernel_rfl)) (fun _ _ _ h => h) (Or.inl ⟨by rfl, ?_⟩) hHeld ?_ ?_
        rotate_left
        · rintro w' ⟨s0, s1, s2⟩
          go_simp
          with_reducible rfl
        rotate_left
        · simp only [Act.put, List.setIfInBounds_toArray, List.set_cons_zero, List.set_cons_succ]
          rfl
        refine take_ (i := 12) (N := some 180) (v := ?_) (a' := ?_) #[true, true, true, true, true, true, true, true, true, true, true, true, true, false, false, false, false, false, false] rfl rfl (take_ofW HT_.out HW_.out (by kernel_rfl)) (fun _ _ _ h => h) (Or.inl ⟨by rfl, ?_⟩) hHeld ?_ ?_
        rotate_left
        · rintro w' ⟨s0, s1, s2⟩
          go_simp
          with_reducible rfl
        rotate_left
        · simp only [Act.put, List.setIfInBounds_toArray, List.set_cons_zero, List.set_cons_succ]
          rfl
        refine take_ (i := 13) (N := some 181) (v := ?_) (a' := ?_) #[true, true, true, true, true, true, true, true, true, true, true, true, true, true, false, false, false, false, false] rfl rfl (take_ofW HT_.out HW_.out (by kernel_rfl)) (fun _ _ _ h => h) (Or.inl ⟨by rfl, ?_⟩) hHeld ?_ ?_
        rotate_left
        · rintro w' ⟨s0, s1, s2⟩
          go_simp
          with_reducible rfl
        rotate_left
        · simp only [Act.put, List.setIfInBounds_toArray, List.set_cons_zero, List.set_cons_succ]
          rfl
        refine take_ (i := 14) (N := some 182) (v := ?_) (a' := ?_) #[true, true, true, true, true, true, true, true, true, true, true, true, true, true, true, false, false, false, false] rfl rfl (take_ofW HT_.out HW_.out (by kernel_rfl)) (fun _ _ _ h => h) (Or.inl ⟨by rfl, ?_⟩) hHeld ?_ ?_
        rotate_left
        · rintro w' ⟨s0, s1, s2⟩
          go_simp
          with_reducible rfl
        rotate_left
        · simp only [Act.put, List.setIfInBounds_toArray, List.set_cons_zero, List.set_cons_succ]
          rfl
        refine one_ (i := 15) (N := some 183) #[true, true, true, true, true, true, true, true, true, true, true, true, true, true, true, true, false, false, false] rfl rfl (one_of HT_.out (by kernel_rfl)) (by decide) (fun K hK => ?_)
        refine value_ (w1 := ?_) (v := ?_) (by rfl) rfl ?_ ?_
        rotate_left 2
        · go_simp
          constructor
          · rfl
          · rfl
        refine hK.out _ _ ⟨pw_cell_below (below_alloc (Below.refl _ _) _) hHeld.1, pw_cell_below (below_alloc (Below.refl _ _) _) hHeld.2.1, pw_cell_below (below_alloc (Below.refl _ _) _) hHeld.2.2⟩ (fun hHeld => ?_)
        clear hK K
        refine norm_ (a' := ?_) ?_ ?_
        rotate_left
        · show Act.put _ (some 183) _ = _
          simp only [Act.put, List.setIfInBounds_toArray, List.set_cons_zero, List.set_cons_succ]
          rfl
        refine one_ (i := 16) (N := some 184) #[true, true, true, true, true, true, true, true, true, true, true, true, true, true, true, true, true, false, false] rfl rfl (one_of HT_.out (by kernel_rfl)) (by decide) (fun K hK => ?_)
        refine Kd.R_append_step kA1 (w0 := w) (W := w8.drew) w.heap.size (by rfl) (.tmp 181) (.tmp 183) 66 69 (.slice none 0 0) 24 rfl Tryz.underlying66 Q.info69 rfl (show 0 < 1 by decide) (by decide) (.slice A4 len c4) ((M.getD qn []).getD fn []) ys [.slice A3 ys.length c3] (fun k => w.heap.size + 2 ≤ k) (fun k => w7.heap.size ≤ k) (by rfl) (by rfl) ⟨_, rfl, HRZA.out⟩ (fun k hk => ⟨by have := (H78.out).1; show w.heap.size + 2 ≤ k; omega, fun e => by have := HUB2.out k e.symm; have hk' : w7.heap.size ≤ k := hk; omega⟩) (fun k hk => by have := H78.out; have hk' : w8.heap.size ≤ k := hk; show w.heap.size + 2 ≤ k; omega) HALT.out (HGA.out).g.hb (HGA.out).g.hb.size (by rw [HLL.out]; have := HLM.out; omega) ?_
        intro v5 w5 ho5 hb5 hg5 hat5
        have HM9 := Aside0.mk (HMAdd.out v5 w5 ho5 hg5 hat5)
        obtain ⟨A5, c5, e5⟩ := Kd.R_slice ho5
        rw [← HLEN.out] at e5
        subst e5
        have HG9 := Aside0.mk ((HGA.out).app HALT.out (by decide) hb5 hg5)
        have HR9 := Aside0.mk (R_grown9 HRA.out HALT.out (by decide) (fun _ h => by cases h) hg5)
        have hneA : some ab ≠ (Value.slice A4 len c4).ownBlock := (fun hh => by obtain ⟨⟨cc, hcc⟩, _⟩ := ownBlock_typed HALT.out hh.symm; exact types_ne HABD.out hcc (by decide) rfl)
        have hneG : some g ≠ (Value.slice A4 len c4).ownBlock := (fun hh => by obtain ⟨⟨cc, hcc⟩, _⟩ := ownBlock_typed HALT.out hh.symm; exact types_ne HGBD.out hcc (by decide) rfl)
        have nr := Go.Proofs.YtbmcigakiibncaaGreatDoorW.PrintWords.cell_grown hg5 HRD.out hneA
        have nc := Go.Proofs.YtbmcigakiibncaaGreatDoorW.PrintWords.cell_grown hg5 HCD.out hneG
        have HGB9 := Aside0.mk (blk_grown HGBD.out hg5 hneG)
        have nf := blk_frozen HGB9.out fn
        obtain ⟨n0, n1, n2, n3⟩ := (HG9.out).g.cells
        clear hneA hneG ho5 hb5 hg5 hat5 n0 n1 n3
        refine hK.out _ _ ⟨n2, nr, nc⟩ (fun hHeld => ?_)
        clear hK K
        refine norm_ (a' := ?_) ?_ ?_
        rotate_left
        · show Act.put _ (some 184) _ = _
          simp only [Act.put, List.setIfInBounds_toArray, List.set_cons_zero, List.set_cons_succ]
          rfl
        refine take_ (i := 17) (N := some 185) (v := ?_) (a' := ?_) #[true, true, true, true, true, true, true, true, true, true, true, true, true, true, true, true, true, true, false] rfl rfl (take_ofW HT_.out HW_.out (by kernel_rfl)) (fun _ _ _ h => h) (Or.inl ⟨by rfl, ?_⟩) hHeld ?_ ?_
        rotate_left
        · rintro w' ⟨s0, s1, s2⟩
          go_simp
          with_reducible rfl
        rotate_left
        · simp only [Act.put, List.setIfInBounds_toArray, List.set_cons_zero, List.set_cons_succ]
          rfl
        refine last_ (i := 18) (N := none) #[true, true, true, true, true, true, true, true, true, true, true, true, true, true, true, true, true, true, true] rfl rfl (one_of HT_.out (by kernel_rfl)) (by decide) (fun K hK => ?_)
        refine skip_ (w1 := ?_) (by rfl) rfl ?_ ?_
        rotate_left
        · go_simp
          rfl
        refine hK.out _ _ ?_
        clear hK K
        refine done_ (done_of HT_.out (by kernel_rfl)) ?_
        refine NoPanic.normal ?_
        clear n2 nr nc nf hHeld
        go_wp2
        go_roundg (n - (k + 1))
        case measure => have := HLT.out; omega
        case rel => exact ⟨k + 1, qm + fn, addAlt M qn fn ys, gs, _, HLT.out, Nat.le_refl _, by rw [HKZ.out], rfl, ⟨(HG9.out).far HGBB.out HBLG.out _⟩, ⟨R_other HR9.out g (fun x => by obtain ⟨⟨cc, hcc⟩, _⟩ := ownBlock_typed HR9.out x; exact types_ne hcc HGB9.out (by decide) rfl) (fun _ h => by cases h) (fun kk hkk _ => Below.heap_setCell _ _ _ kk hkk)⟩, HM9, ⟨by rw [addAlt_len]; exact HML.out⟩, HSTEP2, HLA2, HCN2⟩
      · have hqM : ¬ qn < M.length := by rw [HML.out]; exact hqN
        have HSTEP2 := Aside0.mk (show getV t = (gstep states wd.length (((L.drop 2).take n).drop (k + 1)) (qm + fn) M).map fun M => (wd.map valW, st, M) by rw [HSTEP.out, if_neg (by omega)])
        clear hqM
        go_wp2
        go_roundg (n - (k + 1))
        case measure => have := HLT.out; omega
        case rel => exact ⟨k + 1, qm + fn, M, gs, uu, HLT.out, Nat.le_refl _, by rw [HKZ.out], rfl, HG8, HR8, HM8, HML, HSTEP2, HLA2, ⟨fun a b => Nat.le_succ_of_le (HCN.out a b)⟩⟩
    · obtain rfl : k = n := by omega
      have HVV := Aside0.mk (show getV t = some (wd.map valW, st, M) by rw [HV.out, List.drop_eq_nil_of_le (by rw [List.length_take]; omega)]; rfl)
      clear HV hk hgg hlt
      go_wp2
      exact hK.out _ _ _ _ _ _ _ _ _ _ _ _ _ _ _ _ _ _ _ _ _ _ _ _ _ _ _ _ _ _ _ _ _ _ _ _ _ _ _ _ _ _ _ _ _ _ _ _ _ _ _ _ _ _ _ _ _ _ _ _ _ _ _ _ _ _ _ _ _ _ _ _ _ _ _ _ _ _ _ _ _ _ _ _ _ _ _ _ _ _ _ _ _ _ _ _ M gs uu HG.out HR.out HMM.out HML.out HVV.out
end Go.Proofs.YtbmcigakiibncaaGreatDoor.H
namespace Go.Proofs.YtbmcigakiibncaaGreatDoor.H
open Go.RowKit Go.Proofs.YtbmcigakiibncaaGreatDoorW.PrintWords Go.Proofs.YtbmcigakiibncaaGreatDoorW.PrintLast Go.Proofs.YtbmcigakiibncaaGreatDoorW.PrintMore
set_option linter.unusedVariables false
set_option linter.unusedSimpArgs false
def tabT27a : Bool × List (List Nat × List Nat) := (true, [([], []), ([0], [0]), ([], []), ([2], [2]), ([3], [3]), ([1, 4, 3], [1, 4]), ([0, 1, 2, 3, 4, 5], []), ([6, 5, 5, 0, 1, 2, 3, 4, 5], [5, 6])])
theorem tab27a : rtab .any (opsOf Tryz.f27 7) = tabT27a := by kernel_rfl
theorem bits27a : waitsOk tabT27a.2 [0, 1, 0, 4, 12, 31, 63, 127] = true := by kernel_rfl
def tabT27b : Bool × List (List Nat × List Nat) := (true, [([], []), ([0], [0]), ([], []), ([2], [2]), ([3], [3]), ([4, 4], [4]), ([5], [5]), ([1, 6], [1, 6]), ([0, 1, 2, 3, 4, 5, 6, 7], []), ([8, 7, 7, 0, 1, 2, 3, 4, 5, 6, 7], [7, 8])])
theorem tab27b : rtab .any (opsOf Tryz.f27 15) = tabT27b := by kernel_rfl
theorem bits27b : waitsOk tabT27b.2 [0, 1, 0, 4, 12, 28, 60, 127, 255, 511] = true := by kernel_rfl
def tabT27c : Bool × List (List Nat × List Nat) := (true, [([], []), ([0], [0]), ([], []), ([1, 2], [1, 2]), ([3], [3]), ([], []), ([], []), ([6], [6]), ([], []), ([7, 8], [7, 8]), ([9], [9]), ([], []), ([10, 11], [10, 11]), ([12], [12]), ([], []), ([14], [14]), ([13, 15], [13, 15]), ([4, 5, 0, 1, 2, 3, 4, 5, 6, 7, 8, 9, 10, 11, 12, 13, 14, 15, 16], [4, 5]), ([17, 16, 16, 0, 1, 2, 3, 4, 5, 6, 7, 8, 9, 10, 11, 12, 13, 14, 15, 16], [16, 17])])
theorem tab27c : rtab .any (opsOf Tryz.f27 34) = tabT27c := by kernel_rfl
theorem bits27c : waitsOk tabT27c.2 [0, 1, 0, 7, 15, 0, 0, 64, 0, 448, 960, 0, 4032, 8128, 0, 16384, 65472, 131071, 262143] = true := by kernel_rfl
structure KO (w W0 W : World) : Prop where
  size : W0.heap.size ≤ W.heap.size
  same : ∀ k, w.heap.size + 3 ≤ k → k < W0.heap.size → W.heap[k]? = W0.heap[k]?
theorem KO.refl (w W : World) : KO w W W := ⟨Nat.le_refl _, fun _ _ _ => rfl⟩
theorem KO.keep {w W0 W W1 : World} (h : KO w W0 W) (hk : KeepBut W W1 (w.heap.size + 1) none) : KO w W0 W1 :=
  ⟨Nat.le_trans h.size hk.1, fun k h1 h2 => (hk.2 k (Nat.lt_of_lt_of_le h2 h.size) (by omega) (by simp)).trans (h.same k h1 h2)⟩
theorem KO.mark {w W0 W : World} (h : KO w W0 W) (j : Nat) (u : Value) : KO w W0 (W.setCell ⟨w.heap.size + 1, j, none⟩ u) :=
  ⟨by have := h.size; simpa [World.setCell] using this, fun k h1 h2 => (Below.heap_setCell W ⟨w.heap.size + 1, j, none⟩ u k (by show k ≠ w.heap.size + 1; omega)).trans (h.same k h1 h2)⟩
theorem KO.grown {w W0 W W1 : World} (h : KO w W0 W) {row : Option Nat} (hg : W.grownBy W1 row) (hne : ∀ k, row = some k → W0.heap.size ≤ k) : KO w W0 W1 :=
  ⟨Nat.le_trans h.size hg.size, fun k h1 h2 => (hg.block k (Nat.lt_of_lt_of_le h2 h.size) (fun e => by have := hne k e.symm; omega)).trans (h.same k h1 h2)⟩
theorem KO.mm {w W0 W : World} (h : KO w W0 W) {v : Value} {M : Mv} {m : Nat} {gs : List Nat} {u : Nat → Nat → Value} (hM : MM w.heap.size (w.heap.size + 3) W0 v M m gs u) : MM w.heap.size (w.heap.size + 3) W v M m gs u := hM.move h.same
theorem KO.rr {w W0 W : World} (h : KO w W0 W) {α : Type} {d : Kd α} {e base : Nat} {v : Value} {xs : List α} (hR : d.R e W0 base (fun k => w.heap.size + 3 ≤ k) v xs) : d.R e W base (fun k => w.heap.size + 3 ≤ k) v xs := Kd.R_step hR h.same
theorem rd_num {w0 w : World} {g : Nat} {t : ByteArray} {l : List UInt8} {bad : Bool} (h : RD w0 w g t l bad) (hs : t.size ≤ 65536) (hB : Below w0.heap.size w0 w) :
    Calls Tryz.prog 66 #[.pointer (some ⟨g, 0, none⟩)] w fun e w' => e = .returned (.int .i64 ((nV l : Nat) : Int)) ∧ RD w0 w' g t (nR l) (bad || nX l) ∧ Below w0.heap.size w0 w' ∧ KeepBut w w' g none := rd_number h hs hB
theorem getD_nil2 (n m a b : Nat) : (((zeroM n m).getD a []).getD b []).length = 0 := by rw [zeroM_at]; rfl
set_option maxHeartbeats 16000000 in
set_option maxRecDepth 1000000 in
theorem rget_calls (t : ByteArray) (w : World) :
    Calls Tryz.prog 27 #[.string t] w (GetE t w) := by
  have HRQ := Aside0.mk (refR_eq t)
  have HG0 := Aside0.mk (RG.start w t)
  go_enter Tryz.func27, Tryz.ntmps27
  cases q1 : decide ((t.size : Int) > 65536) with
  | true =>
    have HR := Aside0.mk (show getR t = (3, [], 0, []) by unfold getR; rw [if_pos (by have := of_decide_eq_true q1; omega)])
    have hx := blk_new w (.cells #[.slice none 0 0, .int .i64 0, .slice none 0 0] 25)
    have f0 := blk_frozen hx 0
    have f1 := blk_frozen hx 1
    have f2 := blk_frozen hx 2
    obtain ⟨k0, k1, k2⟩ := box3_cells hx
    have HX := Aside0.mk hx
    have HB := Aside0.mk (below_alloc (Below.refl w.heap.size w) (.cells #[.slice none 0 0, .int .i64 0, .slice none 0 0] 25))
    clear hx
    go_upto_region 1 with (fail)
    generalize w.alloc (.cells #[.slice none 0 0, .int .i64 0, .slice none 0 0] 25) = W1 at *
    go_wp2
    have hbk := blk_set (blk_set (blk_set HX.out 0 (.slice none 0 0)) 1 (.int .i64 0)) 2 (.slice none 0 0)
    refine bodyPost_ret (results_row_tmp rfl _ _ w.heap.size 25 #[.slice none 0 0, .int .i64 0, .slice none 0 0] (0, 0) _ rfl hbk Tryz.underlying25 rfl (by kernel_rfl)) rfl ?_
    unfold GetE
    rw [HR.out]
    exact ⟨none, 0, none, 0, rfl, ⟨rfl, by simp, fun h => absurd h (by simp)⟩, Nat.le_refl _, ⟨rfl, by simp, fun h => absurd h (by simp)⟩, Nat.le_refl _, (((HB.out).setCell (p := ⟨w.heap.size, 0, none⟩) (Nat.le_refl _) _).setCell (p := ⟨w.heap.size, 1, none⟩) (Nat.le_refl _) _).setCell (p := ⟨w.heap.size, 2, none⟩) (Nat.le_refl _) _⟩
  | false =>
  have HSZ := Aside0.mk (show t.size ≤ 65536 by have := of_decide_eq_false q1; omega)
  go_upto_region 5 with (fail)
  clear q1
  generalize (((w.alloc (.cells #[.slice none 0 0, .int .i64 0, .slice none 0 0] 25)).alloc (.cells #[.string t, .int .i64 0, .bool false] 99)).alloc (.cells #[.slice none 0 0, .int .i64 0, .slice none 0 0] 25)) = W1 at *
  have HC := Aside0.mk (rd_must (HG0.out).rd HSZ.out ⟨#[114, 97, 110, 107, 115]⟩ (by decide) (HG0.out).hb)
  go_wp2_with fail
  refine (HC.out).mono ?_
  rintro E W2 ⟨rfl, hrd, hb, hk⟩
  have HG1 := Aside0.mk (show RG w W2 t (refA t) (!isPre tRanks t.data.toList) (.slice none 0 0) (.int .i64 0) (.slice none 0 0) from (HG0.out).keep hrd hb hk)
  clear hrd hb hk HG0 HC
  have HRB := Aside0.mk (show refB t = ranksF ((refA t).length + 1) [] (refA t) (!isPre tRanks t.data.toList) from rfl)
  generalize refA t = l1 at *
  generalize (!isPre tRanks t.data.toList) = b1 at *
  go_upto_block 0 with (fail)
  go_cut [] (fun wx => ∃ (A : Option Addr) (c : Nat), Aside0 (RG w wx t (refB t).2.1 (refB t).2.2 (.slice A (refB t).1.length c) (.int .i64 0) (.slice none 0 0)) ∧ Aside0 (Kd.R (Kd.int .i64) 3 wx w.heap.size (fun k => w.heap.size + 3 ≤ k) (.slice A (refB t).1.length c) (refB t).1) ∧ Aside0 ((refB t).1.length ≤ t.size))
  case first =>
    go_wp2_with fail
    go_loopg [22] (l1.length + 1) (fun gg v22 wi => ∃ (acc : List Int) (l : List UInt8) (b : Bool) (A : Option Addr) (c : Nat), l.length + 1 ≤ gg ∧ Aside0 (refB t = ranksF (l.length + 1) acc l b) ∧ Aside0 (acc.length + l.length ≤ t.size) ∧ Aside0 (RG w wi t l b (.slice A acc.length c) (.int .i64 0) (.slice none 0 0)) ∧ Aside0 (Kd.R (Kd.int .i64) 3 wi w.heap.size (fun k => w.heap.size + 3 ≤ k) (.slice A acc.length c) acc))
    case atStart => exact ⟨[], l1, b1, none, 0, Nat.le_refl _, HRB, ⟨by have := suf_len (HG1.out).rd.suf.choose_spec; simp; omega⟩, HG1, ⟨Kd.R_nil _ _ _ _ _⟩⟩
    case round =>
      clear HG1 HRB
      obtain ⟨acc, l, b, A, c, hgg, HRB, HLEN, HG, HR⟩ := hrel
      obtain ⟨r0, r1, r2, r3⟩ := (HG.out).rcells
      cases b with
      | true =>
        have HF := Aside0.mk (show refB t = (acc, l, true) by rw [HRB.out, ranksF, if_pos rfl])
        go_wp2
        go_meet
        rw [HF.out]
        exact ⟨A, c, HG, HR, ⟨by have := HLEN.out; show acc.length ≤ t.size; omega⟩⟩
      | false =>
      have HC := Aside0.mk (rd_is (HG.out).rd HSZ.out ⟨#[32]⟩ (by decide) (HG.out).hb)
      go_wp2_with fail
      refine (HC.out).mono ?_
      rintro E W4 ⟨rfl, hrd, hb, hk⟩
      have HG4 := Aside0.mk (show RG w W4 t (isD [32] l) false (.slice A acc.length c) (.int .i64 0) (.slice none 0 0) from (HG.out).keep hrd hb hk)
      have HR4 := Aside0.mk (R_keep3 HR.out hk (by omega))
      clear hrd hb hk HC HG HR r0 r1 r2 r3
      cases hp : isPre [32] l with
      | false =>
        have HF := Aside0.mk (show refB t = (acc, l, false) by rw [HRB.out, ranksF, if_neg (by decide), hp]; rfl)
        rw [show isD [32] l = l by unfold isD; rw [hp]; rfl] at HG4
        clear hp
        go_wp2
        go_meet
        rw [HF.out]
        exact ⟨A, c, HG4, HR4, ⟨by have := HLEN.out; show acc.length ≤ t.size; omega⟩⟩
      | true =>
        have hlp := pre_len hp
        have hln := nR_len (l.drop 1)
        simp only [List.length_cons, List.length_nil, List.length_drop] at hlp hln
        have HLP := Aside0.mk (show 1 ≤ l.length ∧ (nR (l.drop 1)).length + 1 ≤ l.length from by omega)
        have HRB2 := Aside0.mk (show refB t = ranksF ((nR (l.drop 1)).length + 1) (acc ++ [((nV (l.drop 1) : Nat) : Int)]) (nR (l.drop 1)) (nX (l.drop 1)) by rw [HRB.out, ranksF, if_neg (by decide), if_pos hp]; exact ranksF_fuel _ _ _ _ _ (by omega) (by omega))
        rw [show isD [32] l = l.drop 1 by unfold isD; rw [hp]; rfl] at HG4
        clear hp hlp hln HRB
        have HGd := Aside0.mk ((HG4.out).below (below_drew (Below.refl _ _)))
        have HRd := Aside0.mk (Kd.R_below HR4.out (below_drew (Below.refl W4.heap.size W4)))
        have HCN := Aside0.mk (rd_num (HGd.out).rd HSZ.out (HGd.out).hb)
        clear HG4 HR4
        generalize nV (l.drop 1) = v1 at *
        generalize hlr : nR (l.drop 1) = lr at *
        generalize hlx : nX (l.drop 1) = lx at *
        clear hlr hlx
        go_upto_region 7 with (fail)
        refine wp_region_noPanic ?_
        refine start_ (n := 8) (S := fun w' => w'.cell? ⟨w.heap.size + 2, 0, none⟩ = some (.slice A acc.length c)) (ds := [7]) #[false, false, false, false, false, false, false, false] (by kernel_rfl) rfl rfl (HGd.out).acells.1.1 (fun hHeld => ?_)
        refine with_tabW tab27a bits27a (fun HT_ HW_ => ?_)
        generalize W4.drew = W5 at HGd HRd HCN hHeld ⊢
        refine take_ (i := 0) (N := some 31) (v := ?_) (a' := ?_) #[true, false, false, false, false, false, false, false] rfl rfl (take_ofW HT_.out HW_.out (by kernel_rfl)) (fun _ _ _ h => h) (Or.inl ⟨by rfl, ?_⟩) hHeld ?_ ?_
        rotate_left
        · rintro w' s0
          go_simp
          with_reducible rfl
        rotate_left
        · simp only [Act.put, List.setIfInBounds_toArray, List.set_cons_zero, List.set_cons_succ]
          rfl
        refine take_ (i := 1) (N := some 32) (v := ?_) (a' := ?_) #[true, true, false, false, false, false, false, false] rfl rfl (take_ofW HT_.out HW_.out (by kernel_rfl)) (fun _ _ _ h => h) (Or.inl ⟨by rfl, ?_⟩) hHeld ?_ ?_
        rotate_left
        · rintro w' s0
          go_simp
          with_reducible rfl
        rotate_left
        · simp only [Act.put, List.setIfInBounds_toArray, List.set_cons_zero, List.set_cons_succ]
          rfl
        refine take_ (i := 2) (N := some 33) (v := ?_) (a' := ?_) #[true, true, true, false, false, false, false, false] rfl rfl (take_ofW HT_.out HW_.out (by kernel_rfl)) (fun _ _ _ h => h) (Or.inl ⟨by rfl, ?_⟩) hHeld ?_ ?_
        rotate_left
        · rintro w' s0
          go_simp
          with_reducible rfl
        rotate_left
        · simp only [Act.put, List.setIfInBounds_toArray, List.set_cons_zero, List.set_cons_succ]
          rfl
        refine one_ (i := 3) (N := some 34) #[true, true, true, true, false, false, false, false] rfl rfl (one_of HT_.out (by kernel_rfl)) (by decide) (fun K hK => ?_)
        refine goes_ (f := 66) Tryz.func66 (by kernel_rfl) rfl #[.pointer (some ⟨w.heap.size + 1, 0, none⟩)] (by rfl) rfl rfl (by (try simp only [List.map_toArray, List.map_cons, List.map_nil]); rfl) ?_
        refine (HCN.out).mono ?_
        rintro E W6 ⟨rfl, hrd, hb, hk⟩
        have HG6 := Aside0.mk (show RG w W6 t lr lx (.slice A acc.length c) (.int .i64 0) (.slice none 0 0) from (HGd.out).keep hrd hb hk)
        have HR6 := Aside0.mk (R_keep3 HRd.out hk (by omega))
        clear hrd hb hk
        refine ⟨_, rfl, ?_⟩
        refine hK.out _ _ (HG6.out).acells.1.1 (fun hHeld => ?_)
        clear hK K
        refine norm_ (a' := ?_) ?_ ?_
        rotate_left
        · show Act.put _ (some 34) _ = _
          simp only [Act.put, List.setIfInBounds_toArray, List.set_cons_zero, List.set_cons_succ]
          rfl
        refine one_ (i := 4) (N := some 35) #[true, true, true, true, true, false, false, false] rfl rfl (one_of HT_.out (by kernel_rfl)) (by decide) (fun K hK => ?_)
        refine value_ (w1 := ?_) (v := ?_) (by rfl) rfl ?_ ?_
        rotate_left 2
        · go_simp
          constructor
          · rfl
          · rfl
        refine hK.out _ _ (pw_cell_below (below_alloc (Below.refl _ _) _) hHeld) (fun hHeld => ?_)
        clear hK K
        refine norm_ (a' := ?_) ?_ ?_
        rotate_left
        · show Act.put _ (some 35) _ = _
          simp only [Act.put, List.setIfInBounds_toArray, List.set_cons_zero, List.set_cons_succ]
          rfl
        refine one_ (i := 5) (N := some 36) #[true, true, true, true, true, true, false, false] rfl rfl (one_of HT_.out (by kernel_rfl)) (by decide) (fun K hK => ?_)
        refine Kd.R_append_step (Kd.int .i64) (w0 := w) (W := W6) w.heap.size (by rfl) (.tmp 32) (.tmp 35) 22 3 (.int .i64 0) 8 rfl Tryz.underlying22 Q.info3 rfl (by decide) (by decide) (.slice A acc.length c) acc (v1 : Int) [.int .i64 (v1 : Int)] (fun k => w.heap.size + 3 ≤ k) (fun _ => False) (by rfl) (by rfl) rfl (fun _ hk => hk.elim) (fun k hk => by have h1 := (HG6.out).lt; have h2 : W6.heap.size ≤ k := hk; show w.heap.size + 3 ≤ k; omega) HR6.out (HG6.out).hb (HG6.out).hb.size (by have := HLEN.out; have := HSZ.out; omega) ?_
        intro v5 w5 ho5 hb5 hg5 hat5
        have HG7 := Aside0.mk ((HG6.out).app HR6.out hb5 hg5)
        obtain ⟨A5, c5, e5⟩ := Kd.R_slice ho5
        rw [List.length_append, List.length_singleton] at e5
        subst e5
        have HO5 := Aside0.mk ho5
        have n0 := (HG7.out).acells.1.1
        have g0 := (HG7.out).acells.2.1
        clear ho5 hb5 hg5 hat5
        refine hK.out _ _ n0 (fun hHeld => ?_)
        clear hK K
        refine norm_ (a' := ?_) ?_ ?_
        rotate_left
        · show Act.put _ (some 36) _ = _
          simp only [Act.put, List.setIfInBounds_toArray, List.set_cons_zero, List.set_cons_succ]
          rfl
        refine take_ (i := 6) (N := some 37) (v := ?_) (a' := ?_) #[true, true, true, true, true, true, true, false] rfl rfl (take_ofW HT_.out HW_.out (by kernel_rfl)) (fun _ _ _ h => h) (Or.inl ⟨by rfl, ?_⟩) hHeld ?_ ?_
        rotate_left
        · rintro w' s0
          go_simp
          with_reducible rfl
        rotate_left
        · simp only [Act.put, List.setIfInBounds_toArray, List.set_cons_zero, List.set_cons_succ]
          rfl
        refine last_ (i := 7) (N := none) #[true, true, true, true, true, true, true, true] rfl rfl (one_of HT_.out (by kernel_rfl)) (by decide) (fun K hK => ?_)
        refine skip_ (w1 := ?_) (by rfl) rfl ?_ ?_
        rotate_left
        · go_simp
          rfl
        refine hK.out _ _ ?_
        clear hK K
        refine done_ (done_of HT_.out (by kernel_rfl)) ?_
        refine NoPanic.normal ?_
        clear n0 g0 hHeld
        go_wp2
        go_roundg (lr.length + 1)
        case measure => have := HLP.out; omega
        case rel => exact ⟨acc ++ [(v1 : Int)], lr, lx, A5, c5, Nat.le_refl _, HRB2, ⟨by rw [List.length_append, List.length_singleton]; have := HLP.out; have := HLEN.out; omega⟩, ⟨by rw [List.length_append, List.length_singleton]; exact (HG7.out).set0 _⟩, ⟨by rw [List.length_append, List.length_singleton]; exact Kd.R_far HO5.out (p := ⟨w.heap.size + 2, 0, none⟩) (fun k hk he => by have h0 : w.heap.size + 3 ≤ k := hk; have h1 : k = w.heap.size + 2 := he; omega) _⟩⟩
  case rest =>
  clear HG1 HRB
  obtain ⟨A, c, HG, HR, HRKL0⟩ := hcut
  have HREF := Aside0.mk (show getR t = if (refL t).2 = true then (4, [], 0, []) else if auB (refB t).1 (nV (refD t) : Int) (refL t).1 = true then (0, (refB t).1, (nV (refD t) : Int), (refL t).1) else (10, [], 0, []) by rw [← HRQ.out]; unfold refR; rw [if_neg (by have := HSZ.out; omega)])
  clear HRQ
  have HC := Aside0.mk (rd_must (HG.out).rd HSZ.out ⟨#[10, 115, 116, 97, 116, 101, 115, 32]⟩ (by decide) (HG.out).hb)
  go_wp2_with fail
  refine (HC.out).mono ?_
  rintro E W3 ⟨rfl, hrd, hb, hk⟩
  have HG3 := Aside0.mk (show RG w W3 t (refC t) ((refB t).2.2 || !isPre tStates (refB t).2.1) (.slice A (refB t).1.length c) (.int .i64 0) (.slice none 0 0) from (HG.out).keep hrd hb hk)
  have HR3 := Aside0.mk (R_keep3 HR.out hk (by omega))
  clear hrd hb hk HC HG HR
  have HC := Aside0.mk (rd_num (HG3.out).rd HSZ.out (HG3.out).hb)
  go_wp2_with fail
  refine (HC.out).mono ?_
  rintro E W4 ⟨rfl, hrd, hb, hk⟩
  have HG4 := Aside0.mk (show RG w W4 t (nR (refC t)) (((refB t).2.2 || !isPre tStates (refB t).2.1) || nX (refC t)) (.slice A (refB t).1.length c) (.int .i64 0) (.slice none 0 0) from (HG3.out).keep hrd hb hk)
  have HR4 := Aside0.mk (R_keep3 HR3.out hk (by omega))
  clear hrd hb hk HC HG3 HR3
  have HC := Aside0.mk (rd_must (HG4.out).rd HSZ.out ⟨#[32, 115, 116, 97, 114, 116, 32]⟩ (by decide) (HG4.out).hb)
  go_wp2_with fail
  refine (HC.out).mono ?_
  rintro E W5 ⟨rfl, hrd, hb, hk⟩
  have HG5 := Aside0.mk (show RG w W5 t (refD t) ((((refB t).2.2 || !isPre tStates (refB t).2.1) || nX (refC t)) || !isPre tStart (nR (refC t))) (.slice A (refB t).1.length c) (.int .i64 0) (.slice none 0 0) from (HG4.out).keep hrd hb hk)
  have HR5 := Aside0.mk (R_keep3 HR4.out hk (by omega))
  clear hrd hb hk HC HG4 HR4
  have HC := Aside0.mk (rd_num (HG5.out).rd HSZ.out (HG5.out).hb)
  go_wp2_with fail
  refine (HC.out).mono ?_
  rintro E W6 ⟨rfl, hrd, hb, hk⟩
  have HG6 := Aside0.mk (show RG w W6 t (nR (refD t)) (((((refB t).2.2 || !isPre tStates (refB t).2.1) || nX (refC t)) || !isPre tStart (nR (refC t))) || nX (refD t)) (.slice A (refB t).1.length c) (.int .i64 0) (.slice none 0 0) from (HG5.out).keep hrd hb hk)
  have HR6 := Aside0.mk (R_keep3 HR5.out hk (by omega))
  clear hrd hb hk HC HG5 HR5
  obtain ⟨⟨k0, k1, k2⟩, g0, g1, g2⟩ := (HG6.out).acells
  go_upto_region 12 with (fail)
  have HG7 := Aside0.mk ((HG6.out).set1 (.int .i64 ((nV (refD t) : Nat) : Int)))
  have HR7 := Aside0.mk (Kd.R_far HR6.out (p := ⟨w.heap.size + 2, 1, none⟩) (fun k hk he => by have h0 : w.heap.size + 3 ≤ k := hk; have h1 : k = w.heap.size + 2 := he; omega) (.int .i64 ((nV (refD t) : Nat) : Int)))
  generalize W6.setCell ⟨w.heap.size + 2, 1, none⟩ (.int .i64 ((nV (refD t) : Nat) : Int)) = W7 at *
  clear HG6 HR6 k0 k1 k2 g0 g1 g2
  have HC := Aside0.mk (rd_must (HG7.out).rd HSZ.out ⟨#[10]⟩ (by decide) (HG7.out).hb)
  go_wp2_with fail
  refine (HC.out).mono ?_
  rintro E W8 ⟨rfl, hrd, hb, hk⟩
  have HG8 := Aside0.mk (show RG w W8 t (refE t) (refBad t) (.slice A (refB t).1.length c) (.int .i64 ((nV (refD t) : Nat) : Int)) (.slice none 0 0) from (HG7.out).keep hrd hb hk)
  have HR8 := Aside0.mk (R_keep3 HR7.out hk (by omega))
  clear hrd hb hk HC HG7 HR7
  have HLF := Aside0.mk (show refL t = linesF (nV (refC t)) (refB t).1.length ((refE t).length + 1) 0 0 (zeroM (min (nV (refC t)) 7) (refB t).1.length) (refE t) (refBad t) from rfl)
  generalize refL t = RL at *
  generalize refE t = lE at *
  generalize refBad t = bE at *
  generalize (refB t).1 = rk at *
  generalize nV (refC t) = S at *
  generalize nV (refD t) = st at *
  have HRKL := Aside0.mk (show rk.length ≤ 65536 from Nat.le_trans HRKL0.out HSZ.out)
  obtain ⟨N, hN⟩ : ∃ N : Nat, min S 7 = N := ⟨_, rfl⟩
  have HN7 := Aside0.mk (show N ≤ 7 from by omega)
  rw [hN] at HLF
  have hmk : ∀ W : World, (Instr.makeSlice 65 (.int .i64 (rk.length : Int)) (.int .i64 (rk.length : Int))).run Tryz.prog W = .ok (.slice (some ⟨W.heap.size, 0, none⟩) rk.length rk.length) (W.alloc (.cells (madeCells #[.slice none 0 0] rk.length) 66)) := fun W => run_make_row' 65 66 (.slice none 0 0) 24 Tryz.underlying65 Q.info66 rfl .i64 .i64 rk.length (by have := HRKL.out; omega) (by have := HRKL.out; omega) W
  have hmin : min (S : Int) 7 = (N : Int) := by omega
  have hmin2 : (if (S : Int) < 7 then (S : Int) else 7) = (N : Int) := by split <;> omega
  clear hN
  go_wp2
  clear hmin hmin2
  go_loopg [51] N (fun gg v51 wi => ∃ (j : Nat) (A2 : Option Addr) (c2 : Nat) (gs : List Nat) (u : Nat → Nat → Value), j ≤ N ∧ N - j ≤ gg ∧ v51 = .int .i64 j ∧ Aside0 (RG w wi t lE bE (.slice A rk.length c) (.int .i64 (st : Int)) (.slice A2 j c2)) ∧ Aside0 (Kd.R (Kd.int .i64) 3 wi w.heap.size (fun k => w.heap.size + 3 ≤ k) (.slice A rk.length c) rk) ∧ Aside0 (MM w.heap.size (w.heap.size + 3) wi (.slice A2 j c2) (List.replicate j (List.replicate rk.length [])) rk.length gs u))
  case atStart => exact ⟨0, none, 0, [], _, Nat.zero_le _, Nat.le_refl _, rfl, HG8, HR8, ⟨MM.start _ _ _ _⟩⟩
  case round =>
    clear HG8 HR8
    obtain ⟨j, A2, c2, gs, u, hj, hgg, rfl, HG9, HR9, HMM⟩ := hrel
    by_cases hlt : j < N
    · have hltz : (j : Int) < (N : Int) := by omega
      have HLT := Aside0.mk hlt
      have HKJ := Aside0.mk (show wrap64 ((j : Int) + 1) = ((j + 1 : Nat) : Int) by rw [wr_id (by omega) (by have := HN7.out; omega)]; rfl)
      have HGd := Aside0.mk ((HG9.out).below (below_drew (Below.refl _ _)))
      have HRd := Aside0.mk (Kd.R_below HR9.out (below_drew (Below.refl wr.heap.size wr)))
      have HMd := Aside0.mk ((HMM.out).below (below_drew (Below.refl wr.heap.size wr)))
      clear HG9 HR9 HMM
      go_upto_region 15 with (fail)
      refine wp_region_noPanic ?_
      refine start_ (n := 10) (S := fun w' => w'.cell? ⟨w.heap.size + 2, 0, none⟩ = some (.slice A rk.length c) ∧ w'.cell? ⟨w.heap.size + 2, 2, none⟩ = some (.slice A2 j c2)) (ds := [9]) #[false, false, false, false, false, false, false, false, false, false] (by kernel_rfl) rfl rfl ⟨(HGd.out).acells.1.1, (HGd.out).acells.1.2.2⟩ (fun hHeld => ?_)
      refine with_tabW tab27b bits27b (fun HT_ HW_ => ?_)
      generalize wr.drew = W5 at HGd HRd HMd hHeld ⊢
      refine take_ (i := 0) (N := some 53) (v := ?_) (a' := ?_) #[true, false, false, false, false, false, false, false, false, false] rfl rfl (take_ofW HT_.out HW_.out (by kernel_rfl)) (fun _ _ _ h => h) (Or.inl ⟨by rfl, ?_⟩) hHeld ?_ ?_
      rotate_left
      · rintro w' ⟨s0, s1⟩
        go_simp
        with_reducible rfl
      rotate_left
      · simp only [Act.put, List.setIfInBounds_toArray, List.set_cons_zero, List.set_cons_succ]
        rfl
      refine take_ (i := 1) (N := some 54) (v := ?_) (a' := ?_) #[true, true, false, false, false, false, false, false, false, false] rfl rfl (take_ofW HT_.out HW_.out (by kernel_rfl)) (fun _ _ _ h => h) (Or.inl ⟨by rfl, ?_⟩) hHeld ?_ ?_
      rotate_left
      · rintro w' ⟨s0, s1⟩
        go_simp
        with_reducible rfl
      rotate_left
      · simp only [Act.put, List.setIfInBounds_toArray, List.set_cons_zero, List.set_cons_succ]
        rfl
      refine take_ (i := 2) (N := some 55) (v := ?_) (a' := ?_) #[true, true, true, false, false, false, false, false, false, false] rfl rfl (take_ofW HT_.out HW_.out (by kernel_rfl)) (fun _ _ _ h => h) (Or.inl ⟨by rfl, ?_⟩) hHeld ?_ ?_
      rotate_left
      · rintro w' ⟨s0, s1⟩
        go_simp
        with_reducible rfl
      rotate_left
      · simp only [Act.put, List.setIfInBounds_toArray, List.set_cons_zero, List.set_cons_succ]
        rfl
      refine take_ (i := 3) (N := some 56) (v := ?_) (a' := ?_) #[true, true, true, true, false, false, false, false, false, false] rfl rfl (take_ofW HT_.out HW_.out (by kernel_rfl)) (fun _ _ _ h => h) (Or.inl ⟨by rfl, ?_⟩) hHeld ?_ ?_
      rotate_left
      · rintro w' ⟨s0, s1⟩
        go_simp
        with_reducible rfl
      rotate_left
      · simp only [Act.put, List.setIfInBounds_toArray, List.set_cons_zero, List.set_cons_succ]
        rfl
      refine take_ (i := 4) (N := some 57) (v := ?_) (a' := ?_) #[true, true, true, true, true, false, false, false, false, false] rfl rfl (take_ofW HT_.out HW_.out (by kernel_rfl)) (fun _ _ _ h => h) (Or.inl ⟨by rfl, ?_⟩) hHeld ?_ ?_
      rotate_left
      · rintro w' ⟨s0, s1⟩
        go_simp
        with_reducible rfl
      rotate_left
      · simp only [Act.put, List.setIfInBounds_toArray, List.set_cons_zero, List.set_cons_succ]
        rfl
      refine one_ (i := 5) (N := some 58) #[true, true, true, true, true, true, false, false, false, false] rfl rfl (one_of HT_.out (by kernel_rfl)) (by decide) (fun K hK => ?_)
      refine value_ (w1 := ?_) (v := ?_) (by rfl) rfl ?_ ?_
      rotate_left 2
      · go_simp
        constructor
        · rfl
        · rfl
      have hb2 := below_alloc (Below.refl W5.heap.size W5) (.cells (madeCells #[.slice none 0 0] rk.length) 66)
      have HGA := Aside0.mk ((HGd.out).below hb2)
      have HRA := Aside0.mk (Kd.R_below HRd.out hb2)
      have HMA := Aside0.mk ((HMd.out).below hb2)
      have HNEW := Aside0.mk (show (W5.alloc (.cells (madeCells #[.slice none 0 0] rk.length) 66)).heap[W5.heap.size]? = some (.cells (Array.replicate rk.length (.slice none 0 0)) 66 (0, 0)) from by rw [← made_rep]; exact blk_new W5 _)
      have HGSL := Aside0.mk (show gs.length = j by rw [(HMd.out).len]; simp)
      have HGLT := Aside0.mk (show ∀ q, q < (List.replicate j (List.replicate rk.length ([] : List (List Nd)))).length → gs.getD q 0 ≠ W5.heap.size from fun q hq => by have := blk_lt ((HMd.out).rows q hq).2.1; omega)
      have HB2 := Aside0.mk (show w.heap.size + 3 ≤ W5.heap.size from (HGd.out).lt)
      clear hb2
      refine hK.out _ _ ⟨pw_cell_below (below_alloc (Below.refl _ _) _) hHeld.1, pw_cell_below (below_alloc (Below.refl _ _) _) hHeld.2⟩ (fun hHeld => ?_)
      clear hK K
      refine norm_ (a' := ?_) ?_ ?_
      rotate_left
      · show Act.put _ (some 58) _ = _
        simp only [Act.put, List.setIfInBounds_toArray, List.set_cons_zero, List.set_cons_succ]
        rfl
      refine one_ (i := 6) (N := some 59) #[true, true, true, true, true, true, true, false, false, false] rfl rfl (one_of HT_.out (by kernel_rfl)) (by decide) (fun K hK => ?_)
      refine value_ (w1 := ?_) (v := ?_) (by rfl) rfl ?_ ?_
      rotate_left 2
      · go_simp
        constructor
        · rfl
        · rfl
      refine hK.out _ _ ⟨pw_cell_below (below_alloc (Below.refl _ _) _) hHeld.1, pw_cell_below (below_alloc (Below.refl _ _) _) hHeld.2⟩ (fun hHeld => ?_)
      clear hK K
      refine norm_ (a' := ?_) ?_ ?_
      rotate_left
      · show Act.put _ (some 59) _ = _
        simp only [Act.put, List.setIfInBounds_toArray, List.set_cons_zero, List.set_cons_succ]
        rfl
      refine one_ (i := 7) (N := some 60) #[true, true, true, true, true, true, true, true, false, false] rfl rfl (one_of HT_.out (by kernel_rfl)) (by decide) (fun K hK => ?_)
      refine Kd.R_append_step (kRow rk.length) (w0 := w) (W := W5.alloc (.cells (madeCells #[.slice none 0 0] rk.length) 66)) w.heap.size (by rfl) (.tmp 54) (.tmp 59) 23 65 (.slice none 0 0) 24 rfl Tryz.underlying23 Q.info65 rfl (show 0 < 1 by decide) (by decide) (.slice A2 j c2) gs W5.heap.size [.slice (some ⟨W5.heap.size, 0, none⟩) rk.length rk.length] (fun k => w.heap.size + 3 ≤ k) (fun _ => False) (by rfl) (by show Value.slice (some ⟨W5.heap.size + 1, 0, none⟩) 1 1 = _; simp) rfl (fun _ hk => hk.elim) (fun k hk => by have h1 := (HGA.out).lt; have h2 : (W5.alloc (.cells (madeCells #[.slice none 0 0] rk.length) 66)).heap.size ≤ k := hk; show w.heap.size + 3 ≤ k; omega) (HMA.out).row (HGA.out).hb (HGA.out).hb.size (by rw [HGSL.out]; have := HN7.out; have := HLT.out; omega) ?_
      intro v5 w5 ho5 hb5 hg5 hat5
      have HMP := Aside0.mk ((HMA.out).push W5.heap.size HNEW.out HB2.out HGLT.out ho5 hg5)
      obtain ⟨A5, c5, e5⟩ := Kd.R_slice ho5
      rw [List.length_append, HGSL.out, List.length_singleton] at e5
      subst e5
      have HGP := Aside0.mk ((HGA.out).app (HMA.out).row hb5 hg5)
      have HRP := Aside0.mk (R_grown9 HRA.out (HMA.out).row (by decide) (fun _ h => by cases h) hg5)
      obtain ⟨⟨n0, n1, n2⟩, g0, g1, g2⟩ := (HGP.out).acells
      clear ho5 hb5 hg5 hat5 n1 g0 g1
      refine hK.out _ _ ⟨n0, n2⟩ (fun hHeld => ?_)
      clear hK K
      refine norm_ (a' := ?_) ?_ ?_
      rotate_left
      · show Act.put _ (some 60) _ = _
        simp only [Act.put, List.setIfInBounds_toArray, List.set_cons_zero, List.set_cons_succ]
        rfl
      refine take_ (i := 8) (N := some 61) (v := ?_) (a' := ?_) #[true, true, true, true, true, true, true, true, true, false] rfl rfl (take_ofW HT_.out HW_.out (by kernel_rfl)) (fun _ _ _ h => h) (Or.inl ⟨by rfl, ?_⟩) hHeld ?_ ?_
      rotate_left
      · rintro w' ⟨s0, s1⟩
        go_simp
        with_reducible rfl
      rotate_left
      · simp only [Act.put, List.setIfInBounds_toArray, List.set_cons_zero, List.set_cons_succ]
        rfl
      refine last_ (i := 9) (N := none) #[true, true, true, true, true, true, true, true, true, true] rfl rfl (one_of HT_.out (by kernel_rfl)) (by decide) (fun K hK => ?_)
      refine skip_ (w1 := ?_) (by rfl) rfl ?_ ?_
      rotate_left
      · go_simp
        rfl
      refine hK.out _ _ ?_
      clear hK K
      refine done_ (done_of HT_.out (by kernel_rfl)) ?_
      refine NoPanic.normal ?_
      clear n0 n2 g2 hHeld
      go_wp2
      go_roundg (N - (j + 1))
      case measure => have := HLT.out; omega
      case rel => exact ⟨j + 1, A5, c5, gs ++ [W5.heap.size], _, HLT.out, Nat.le_refl _, (by first | rfl | rw [HKJ.out]), ⟨(HGP.out).set2 _⟩, ⟨Kd.R_far HRP.out (p := ⟨w.heap.size + 2, 2, none⟩) (fun k hk he => by have h0 : w.heap.size + 3 ≤ k := hk; have h1 : k = w.heap.size + 2 := he; omega) _⟩, ⟨by rw [List.replicate_succ']; exact (HMP.out).far (by omega) _⟩⟩
    · obtain rfl : N = j := by omega
      clear hlt hj hgg hmk
      have HMZ := Aside0.mk (show MM w.heap.size (w.heap.size + 3) wr (.slice A2 N c2) (zeroM N rk.length) rk.length gs u from HMM.out)
      clear HMM
      go_upto_block 4 with (fail)
      go_cut [] (fun wx => ∃ (l : List UInt8) (A2 : Option Addr) (c2 : Nat) (gs : List Nat) (uu : Nat → Nat → Value), Aside0 (RG w wx t l RL.2 (.slice A rk.length c) (.int .i64 (st : Int)) (.slice A2 RL.1.length c2)) ∧ Aside0 (Kd.R (Kd.int .i64) 3 wx w.heap.size (fun k => w.heap.size + 3 ≤ k) (.slice A rk.length c) rk) ∧ Aside0 (MM w.heap.size (w.heap.size + 3) wx (.slice A2 RL.1.length c2) RL.1 rk.length gs uu))
      case first =>
        go_wp2_with fail
        go_loopg [7, 8] (lE.length + 1) (fun gg v7 v8 wi => ∃ (q f : Nat) (M : Mv) (l : List UInt8) (b : Bool) (A2 : Option Addr) (c2 : Nat) (gs : List Nat) (uu : Nat → Nat → Value), (if b = true then 0 else l.length + 1) ≤ gg ∧ v7 = .int .i64 q ∧ v8 = .int .i64 f ∧ Aside0 (RL = linesF S rk.length (l.length + 1) q f M l b) ∧ Aside0 (M.length = N) ∧ Aside0 (∀ a b, ((M.getD a []).getD b []).length ≤ t.size - l.length) ∧ Aside0 (RG w wi t l b (.slice A rk.length c) (.int .i64 (st : Int)) (.slice A2 N c2)) ∧ Aside0 (Kd.R (Kd.int .i64) 3 wi w.heap.size (fun k => w.heap.size + 3 ≤ k) (.slice A rk.length c) rk) ∧ Aside0 (MM w.heap.size (w.heap.size + 3) wi (.slice A2 N c2) M rk.length gs uu))
        case atStart => exact ⟨0, 0, zeroM N rk.length, lE, bE, A2, c2, gs, u, by split <;> omega, rfl, rfl, HLF, ⟨by unfold zeroM; simp⟩, ⟨fun a b => by rw [getD_nil2]; omega⟩, HG9, HR9, HMZ⟩
        case round =>
          clear HG9 HR9 HMZ HLF
          obtain ⟨q, f, M, l, b, A2, c2, gs, uu, hgg, rfl, rfl, HLF, HML, HCN, HG, HR, HM⟩ := hrel
          obtain ⟨r0, r1, r2, r3⟩ := (HG.out).rcells
          cases b with
          | true =>
            have HF := Aside0.mk (show RL = (M, true) by rw [HLF.out, linesF_bad])
            go_wp2
            go_meet
            rw [HF.out]
            exact ⟨l, A2, c2, gs, uu, ⟨by rw [show ((M, true) : Mv × Bool).1.length = N from HML.out]; exact HG.out⟩, HR, ⟨by rw [show ((M, true) : Mv × Bool).1.length = N from HML.out]; exact HM.out⟩⟩
          | false =>
          replace hgg := (show l.length + 1 ≤ _ from by simpa using hgg)
          have HSL := Aside0.mk (show l.length ≤ t.size from by have := suf_len (HG.out).rd.suf.choose_spec; omega)
          by_cases hl : l = []
          · subst hl
            have HF := Aside0.mk (show RL = (M, false) by rw [HLF.out, linesF, if_neg (by decide), if_pos rfl])
            rw [show ([] : List UInt8).length = 0 from rfl, Nat.sub_zero] at r1
            go_wp2
            go_meet
            rw [HF.out]
            exact ⟨[], A2, c2, gs, uu, ⟨by rw [show ((M, false) : Mv × Bool).1.length = N from HML.out]; exact HG.out⟩, HR, ⟨by rw [show ((M, false) : Mv × Bool).1.length = N from HML.out]; exact HM.out⟩⟩
          · have HL1 := Aside0.mk (show 1 ≤ l.length from by cases l with | nil => exact absurd rfl hl | cons a r => simp)
            have hat : (((t.size - l.length : Nat) : Int)) < (t.size : Int) := by have := HL1.out; have := HSL.out; omega
            have HLF2 := Aside0.mk (show RL = linesF S rk.length l.length (nV l) (nV (lnG l)) (if lnOut S rk.length q f l = false ∧ nV l < M.length then addAlt M (nV l) (nV (lnG l)) (lnN S rk.length q f l).1 else M) (lnEnd S rk.length q f l) (lnOut S rk.length q f l) by rw [HLF.out, linesF, if_neg (by decide), if_neg hl])
            clear hl HLF
            have HC := Aside0.mk (rd_num (HG.out).rd HSZ.out (HG.out).hb)
            have HW0 := Aside0.mk (show w.heap.size + 3 ≤ wr.heap.size from (HG.out).lt)
            have HK0 := Aside0.mk (KO.refl w wr)
            have HUBO := Aside0.mk (fun (a b : Nat) (ha : a < M.length) (hb' : b < rk.length) (kk : Nat) (hkk : (uu a b).ownBlock = some kk) => (ownBlock_typed ((HM.out).alts a b ha hb') hkk).2)
            generalize hw0 : wr = W0 at *
            clear hw0
            go_wp2_with fail
            refine (HC.out).mono ?_
            rintro E W1 ⟨rfl, hrd, hb, hk⟩
            have HG1 := Aside0.mk (show RG w W1 t (nR l) (nX l) (.slice A rk.length c) (.int .i64 (st : Int)) (.slice A2 N c2) from (HG.out).keep hrd hb hk)
            have HK1 := Aside0.mk ((HK0.out).keep hk)
            clear hrd hb hk HC HG HK0 r0 r1 r2 r3 hat
            have HC := Aside0.mk (rd_must (HG1.out).rd HSZ.out ⟨#[32]⟩ (by decide) (HG1.out).hb)
            go_wp2_with fail
            refine (HC.out).mono ?_
            rintro E W2 ⟨rfl, hrd, hb, hk⟩
            have HG2 := Aside0.mk (show RG w W2 t (lnG l) (nX l || !isPre [32] (nR l)) (.slice A rk.length c) (.int .i64 (st : Int)) (.slice A2 N c2) from (HG1.out).keep hrd hb hk)
            have HK2 := Aside0.mk ((HK1.out).keep hk)
            clear hrd hb hk HC HG1 HK1
            have HC := Aside0.mk (rd_num (HG2.out).rd HSZ.out (HG2.out).hb)
            go_wp2_with fail
            refine (HC.out).mono ?_
            rintro E W3 ⟨rfl, hrd, hb, hk⟩
            have HG3 := Aside0.mk (show RG w W3 t (nR (lnG l)) ((nX l || !isPre [32] (nR l)) || nX (lnG l)) (.slice A rk.length c) (.int .i64 (st : Int)) (.slice A2 N c2) from (HG2.out).keep hrd hb hk)
            have HK3 := Aside0.mk ((HK2.out).keep hk)
            clear hrd hb hk HC HG2 HK2
            have HC := Aside0.mk (rd_must (HG3.out).rd HSZ.out ⟨#[58]⟩ (by decide) (HG3.out).hb)
            go_wp2_with fail
            refine (HC.out).mono ?_
            rintro E W4 ⟨rfl, hrd, hb, hk⟩
            have HG4 := Aside0.mk (show RG w W4 t (lnC l) (lnB4 l) (.slice A rk.length c) (.int .i64 (st : Int)) (.slice A2 N c2) from (HG3.out).keep hrd hb hk)
            have HK4 := Aside0.mk ((HK3.out).keep hk)
            clear hrd hb hk HC HG3 HK3
            have HBD := Aside0.mk (show lnBad S rk.length q f l = (decide (nV l < q) || (decide (nV l = q) && decide (nV (lnG l) < f)) || decide (S ≤ nV l) || decide (rk.length ≤ nV (lnG l))) from rfl)
            have HBE := Aside0.mk (show lnB S rk.length q f l = (lnB4 l || lnBad S rk.length q f l) from rfl)
            have HNN := Aside0.mk (show lnN S rk.length q f l = needsF ((lnC l).length + 1) [] (lnC l) (lnB S rk.length q f l) from rfl)
            have HEE := Aside0.mk (show lnEnd S rk.length q f l = isD [10] (lnN S rk.length q f l).2.1 from rfl)
            have HOO := Aside0.mk (show lnOut S rk.length q f l = ((lnN S rk.length q f l).2.2 || !isPre [10] (lnN S rk.length q f l).2.1) from rfl)
            have HELE := Aside0.mk (show (lnEnd S rk.length q f l).length ≤ l.length from by have h1 := nR_len l; have h2 := isD_len [32] (nR l); have h3 := nR_len (lnG l); have h4 := isD_len [58] (nR (lnG l)); have h5 := (needsF_len ((lnC l).length + 1) [] (lnC l) (lnB S rk.length q f l)).1; have h6 := isD_len [10] (lnN S rk.length q f l).2.1; unfold lnEnd; unfold lnN at h6 ⊢; unfold lnC at h5 h6 ⊢; unfold lnG at h3 h4 h5 h6 ⊢; omega)
            have HSUB := Aside0.mk (fun (h : lnOut S rk.length q f l = false) => lnOut_sub h)
            have HCLE := Aside0.mk (show (lnC l).length ≤ l.length from by have h1 := nR_len l; have h2 := isD_len [32] (nR l); have h3 := nR_len (lnG l); have h4 := isD_len [58] (nR (lnG l)); unfold lnC; unfold lnG at h3 h4 ⊢; omega)
            generalize lnEnd S rk.length q f l = lEnd at *
            generalize lnOut S rk.length q f l = bOut at *
            generalize lnN S rk.length q f l = NN at *
            generalize lnB S rk.length q f l = bB at *
            generalize lnBad S rk.length q f l = bD at *
            generalize lnB4 l = b4 at *
            generalize lnC l = lC at *
            generalize nV (lnG l) = G at *
            generalize nV l = P at *
            go_upto_region 23 with (fail)
            go_cut [109] (fun v109 wx => v109 = .bool bD ∧ wx = W4)
            case first =>
              obtain ⟨⟨k0, k1, k2⟩, _⟩ := (HG4.out).acells
              by_cases c1 : P < q
              · have e1 : decide (P < q) = true := decide_eq_true c1
                have HV := Aside0.mk (show bD = true by rw [HBD.out, e1]; simp)
                have z1 : (P : Int) < (q : Int) := by omega
                go_wp2
                go_meet
                exact ⟨by rw [HV.out], rfl⟩
              · have e1 : decide (P < q) = false := decide_eq_false c1
                have z1 : ¬ (P : Int) < (q : Int) := by omega
                by_cases c2 : P = q ∧ G < f
                · obtain ⟨c2, c3⟩ := c2
                  subst c2
                  have HV := Aside0.mk (show bD = true by rw [HBD.out, decide_eq_true c3]; simp)
                  have z3 : (G : Int) < (f : Int) := by omega
                  have e3 : decide (G < f) = true := decide_eq_true c3
                  go_wp2
                  go_meet
                  exact ⟨by rw [HV.out], rfl⟩
                · have HE2 := Aside0.mk (show (decide (P < q) || (decide (P = q) && decide (G < f))) = false by rw [e1, Bool.false_or]; cases d1 : decide (P = q) with | false => rfl | true => cases d2 : decide (G < f) with | false => rfl | true => exact absurd ⟨of_decide_eq_true d1, of_decide_eq_true d2⟩ c2)
                  have HV := Aside0.mk (show bD = (decide (S ≤ P) || decide (rk.length ≤ G)) by rw [HBD.out, HE2.out, Bool.false_or])
                  by_cases c4 : S ≤ P
                  · have z4 : (P : Int) ≥ (S : Int) := by omega
                    have e4 : decide (S ≤ P) = true := decide_eq_true c4
                    have HV2 := Aside0.mk (show bD = true by rw [HV.out, e4]; rfl)
                    by_cases c5 : P = q
                    · subst c5
                      have z5 : ¬ (G : Int) < (f : Int) := by have : ¬ G < f := fun h => c2 ⟨rfl, h⟩; omega
                      have e5 : decide (G < f) = false := decide_eq_false (by omega)
                      clear c2
                      go_wp2
                      go_meet
                      exact ⟨by rw [HV2.out], rfl⟩
                    · have z5 : ((P : Int) == (q : Int)) = false := beq_eq_false_iff_ne.2 (by omega)
                      have e5 : (P == q) = false := beq_eq_false_iff_ne.2 c5
                      clear c2
                      go_wp2
                      go_meet
                      exact ⟨by rw [HV2.out], rfl⟩
                  · have z4 : ¬ (P : Int) ≥ (S : Int) := by omega
                    have e4 : decide (S ≤ P) = false := decide_eq_false c4
                    have HV2 := Aside0.mk (show bD = decide (rk.length ≤ G) by rw [HV.out, e4, Bool.false_or])
                    by_cases c6 : rk.length ≤ G
                    · have z6 : (G : Int) ≥ (rk.length : Int) := by omega
                      have e6 : decide (rk.length ≤ G) = true := decide_eq_true c6
                      have HV3 := Aside0.mk (show bD = true by rw [HV2.out, e6])
                      by_cases c5 : P = q
                      · subst c5
                        have z5 : ¬ (G : Int) < (f : Int) := by have : ¬ G < f := fun h => c2 ⟨rfl, h⟩; omega
                        have e5 : decide (G < f) = false := decide_eq_false (by omega)
                        clear c2
                        go_wp2
                        go_meet
                        exact ⟨by rw [HV3.out], rfl⟩
                      · have z5 : ((P : Int) == (q : Int)) = false := beq_eq_false_iff_ne.2 (by omega)
                        have e5 : (P == q) = false := beq_eq_false_iff_ne.2 c5
                        clear c2
                        go_wp2
                        go_meet
                        exact ⟨by rw [HV3.out], rfl⟩
                    · have z6 : ¬ (G : Int) ≥ (rk.length : Int) := by omega
                      have e6 : decide (rk.length ≤ G) = false := decide_eq_false c6
                      have HV3 := Aside0.mk (show bD = false by rw [HV2.out, e6])
                      by_cases c5 : P = q
                      · subst c5
                        have z5 : ¬ (G : Int) < (f : Int) := by have : ¬ G < f := fun h => c2 ⟨rfl, h⟩; omega
                        have e5 : decide (G < f) = false := decide_eq_false (by omega)
                        clear c2
                        go_wp2
                        go_meet
                        exact ⟨by rw [HV3.out], rfl⟩
                      · have z5 : ((P : Int) == (q : Int)) = false := beq_eq_false_iff_ne.2 (by omega)
                        have e5 : (P == q) = false := beq_eq_false_iff_ne.2 c5
                        clear c2
                        go_wp2
                        go_meet
                        exact ⟨by rw [HV3.out], rfl⟩
            case rest =>
            obtain ⟨rfl, rfl⟩ := hcut
            go_upto_if 109 with (fail)
            go_cut [] (fun wx => Aside0 (RG w wx t lC bB (.slice A rk.length c) (.int .i64 (st : Int)) (.slice A2 N c2)) ∧ Aside0 (KO w W0 wx))
            case first =>
              obtain ⟨r0, r1, r2, r3⟩ := (HG4.out).rcells
              cases bD with
              | true =>
                have HV := Aside0.mk (show bB = true by rw [HBE.out]; simp)
                go_wp2
                go_meet
                rw [HV.out]
                exact ⟨⟨(HG4.out).mark⟩, ⟨(HK4.out).mark _ _⟩⟩
              | false =>
                have HV := Aside0.mk (show bB = b4 by rw [HBE.out]; simp)
                go_wp2
                go_meet
                rw [HV.out]
                exact ⟨HG4, HK4⟩
            case rest =>
            clear HG4 HK4
            obtain ⟨HG5, HK5⟩ := hcut
            go_upto_block 6 with (fail)
            go_cut [11] (fun v11 wx => ∃ (A3 : Option Addr) (c3 : Nat), v11 = .slice A3 NN.1.length c3 ∧ Aside0 (Kd.R Q.k83 83 wx w.heap.size (fun k => W0.heap.size ≤ k) (.slice A3 NN.1.length c3) NN.1) ∧ Aside0 (RG w wx t NN.2.1 NN.2.2 (.slice A rk.length c) (.int .i64 (st : Int)) (.slice A2 N c2)) ∧ Aside0 (KO w W0 wx))
            case first =>
              go_wp2_with fail
              go_loopg [11] (lC.length + 1) (fun gg v11 wi => ∃ (acc : List Nd) (l' : List UInt8) (b : Bool) (A3 : Option Addr) (c3 : Nat), l'.length + 1 ≤ gg ∧ v11 = .slice A3 acc.length c3 ∧ Aside0 (NN = needsF (l'.length + 1) acc l' b) ∧ Aside0 (acc.length + l'.length ≤ t.size) ∧ Aside0 (Kd.R Q.k83 83 wi w.heap.size (fun k => W0.heap.size ≤ k) (.slice A3 acc.length c3) acc) ∧ Aside0 (RG w wi t l' b (.slice A rk.length c) (.int .i64 (st : Int)) (.slice A2 N c2)) ∧ Aside0 (KO w W0 wi))
              case atStart => exact ⟨[], lC, bB, none, 0, Nat.le_refl _, rfl, HNN, ⟨by have := HCLE.out; have := HSL.out; simp; omega⟩, ⟨Kd.R_nil _ _ _ _ _⟩, HG5, HK5⟩
              case round =>
                clear HG5 HK5 HNN
                obtain ⟨acc, l', b, A3, c3, hgg3, rfl, HNN, HLEN, HZ, HG, HK⟩ := hrel
                obtain ⟨r0, r1, r2, r3⟩ := (HG.out).rcells
                cases b with
                | true =>
                  have HF := Aside0.mk (show NN = (acc, l', true) by rw [HNN.out, needsF, if_pos rfl])
                  go_wp2
                  go_meet
                  rw [HF.out]
                  exact ⟨A3, c3, rfl, HZ, HG, HK⟩
                | false =>
                have HC := Aside0.mk (rd_is (HG.out).rd HSZ.out ⟨#[32]⟩ (by decide) (HG.out).hb)
                go_wp2_with fail
                refine (HC.out).mono ?_
                rintro E V1 ⟨rfl, hrd, hb, hk⟩
                have HG1 := Aside0.mk (show RG w V1 t (isD [32] l') false (.slice A rk.length c) (.int .i64 (st : Int)) (.slice A2 N c2) from (HG.out).keep hrd hb hk)
                have HZ1 := Aside0.mk (R_keep3 HZ.out hk (by have := HW0.out; omega))
                have HK1 := Aside0.mk ((HK.out).keep hk)
                clear hrd hb hk HC HG HZ HK r0 r1 r2 r3
                cases hp : isPre [32] l' with
                | false =>
                  have HF := Aside0.mk (show NN = (acc, l', false) by rw [HNN.out, needsF, if_neg (by decide), hp]; rfl)
                  rw [show isD [32] l' = l' by unfold isD; rw [hp]; rfl] at HG1
                  clear hp
                  go_wp2
                  go_meet
                  rw [HF.out]
                  exact ⟨A3, c3, rfl, HZ1, HG1, HK1⟩
                | true =>
                  have hlp := ndL_len hp
                  have HLP := Aside0.mk (show (ndL l').length + 1 ≤ l'.length from by omega)
                  have HNN2 := Aside0.mk (show NN = needsF ((ndL l').length + 1) (acc ++ [ndV l']) (ndL l') (ndB l') by rw [HNN.out, needsF, if_neg (by decide), if_pos hp]; exact needsF_fuel _ _ _ _ _ (by omega) (by omega))
                  rw [show isD [32] l' = l'.drop 1 by unfold isD; rw [hp]; rfl] at HG1
                  clear hp hlp HNN
                  have HNV := Aside0.mk (show ndV l' = ⟨((nV (l'.drop 1) : Nat) : Int), ((nV (isD [46] (ndA l')) : Nat) : Int)⟩ from rfl)
                  have HNA := Aside0.mk (show nR (l'.drop 1) = ndA l' from rfl)
                  have HNL := Aside0.mk (show nR (isD [46] (ndA l')) = ndL l' from rfl)
                  have HNB := Aside0.mk (show ((nX (l'.drop 1) || !isPre [46] (ndA l')) || nX (isD [46] (ndA l'))) = ndB l' from rfl)
                  have HC := Aside0.mk (rd_num (HG1.out).rd HSZ.out (HG1.out).hb)
                  rw [HNA.out] at HC
                  generalize nV (l'.drop 1) = n1 at *
                  generalize hx1 : nX (l'.drop 1) = x1 at *
                  generalize hld : l'.drop 1 = ld at *
                  clear hx1 hld
                  go_wp2_with fail
                  refine (HC.out).mono ?_
                  rintro E V2 ⟨rfl, hrd, hb, hk⟩
                  have HG2 := Aside0.mk (show RG w V2 t (ndA l') x1 (.slice A rk.length c) (.int .i64 (st : Int)) (.slice A2 N c2) from (HG1.out).keep hrd hb hk)
                  have HZ2 := Aside0.mk (R_keep3 HZ1.out hk (by have := HW0.out; omega))
                  have HK2 := Aside0.mk ((HK1.out).keep hk)
                  clear hrd hb hk HC HG1 HZ1 HK1
                  have HC := Aside0.mk (rd_must (HG2.out).rd HSZ.out ⟨#[46]⟩ (by decide) (HG2.out).hb)
                  go_wp2_with fail
                  refine (HC.out).mono ?_
                  rintro E V3 ⟨rfl, hrd, hb, hk⟩
                  have HG3 := Aside0.mk (show RG w V3 t (isD [46] (ndA l')) (x1 || !isPre [46] (ndA l')) (.slice A rk.length c) (.int .i64 (st : Int)) (.slice A2 N c2) from (HG2.out).keep hrd hb hk)
                  have HZ3 := Aside0.mk (R_keep3 HZ2.out hk (by have := HW0.out; omega))
                  have HK3 := Aside0.mk ((HK2.out).keep hk)
                  clear hrd hb hk HC HG2 HZ2 HK2
                  have HC := Aside0.mk (rd_num (HG3.out).rd HSZ.out (HG3.out).hb)
                  rw [HNL.out, HNB.out] at HC
                  generalize nV (isD [46] (ndA l')) = n2 at *
                  go_wp2_with fail
                  refine (HC.out).mono ?_
                  rintro E V4 ⟨rfl, hrd, hb, hk⟩
                  have HG4 := Aside0.mk (show RG w V4 t (ndL l') (ndB l') (.slice A rk.length c) (.int .i64 (st : Int)) (.slice A2 N c2) from (HG3.out).keep hrd hb hk)
                  have HZ4 := Aside0.mk (R_keep3 HZ3.out hk (by have := HW0.out; omega))
                  have HK4 := Aside0.mk ((HK3.out).keep hk)
                  clear hrd hb hk HC HG3 HZ3 HK3
                  generalize ndV l' = nd at *
                  go_wp2_with ((with_reducible refine gate_builtin (b := .append) (xs := #[.tmp 128, .tmp 133]) rfl ?_); at_builtin; refine Kd.R_append Q.k83 (w0 := w) w.heap.size rfl (.tmp 128) (.tmp 133) 69 83 (.agg #[.int .i64 0, .int .i64 0]) 16 rfl Tryz.underlying69 Q.info83 rfl (by decide) (by decide) (.slice A3 acc.length c3) acc nd [.int .i64 (n1 : Int), .int .i64 (n2 : Int)] (fun k => W0.heap.size ≤ k) (fun _ => False) rfl rfl (by rw [HNV.out]; exact Q.k83_mkM _ _ _ _) (fun _ hk => hk.elim) (fun k hk => Nat.le_trans (HK4.out).size hk) HZ4.out (HG4.out).hb (HG4.out).hb.size (by have := HLEN.out; have := HSZ.out; omega) ?_; intro v5 w5 ho5 hb5 hg5 hat5; have HZ5 := Aside0.mk ho5; have HG5 := Aside0.mk ((HG4.out).app (Kd.R_mono HZ4.out (ok' := fun k => w.heap.size + 3 ≤ k) (fun k hk => Nat.le_trans HW0.out hk)) hb5 hg5); have HK5 := Aside0.mk ((HK4.out).grown hg5 (fun k hk => HZ4.out.1 k hk)); clear ho5 hb5 hg5 hat5)
                  obtain ⟨A5, c5, e5⟩ := Kd.R_slice HZ5.out
                  subst e5
                  go_roundg ((ndL l').length + 1)
                  case measure => have := HLP.out; omega
                  case rel => exact ⟨acc ++ [nd], ndL l', ndB l', A5, c5, Nat.le_refl _, rfl, HNN2, ⟨by rw [List.length_append, List.length_singleton]; have := HLP.out; have := HLEN.out; omega⟩, HZ5, HG5, HK5⟩
            case rest =>
            clear HG5 HK5 HNN
            obtain ⟨A3, c3, rfl, HZ6, HG6, HK6⟩ := hcut
            have HC := Aside0.mk (rd_must (HG6.out).rd HSZ.out ⟨#[10]⟩ (by decide) (HG6.out).hb)
            go_wp2_with fail
            refine (HC.out).mono ?_
            rintro E W8 ⟨rfl, hrd, hb, hk⟩
            have HG8 := Aside0.mk (show RG w W8 t lEnd bOut (.slice A rk.length c) (.int .i64 (st : Int)) (.slice A2 N c2) from by rw [HEE.out, HOO.out]; exact (HG6.out).keep hrd hb hk)
            have HK8 := Aside0.mk ((HK6.out).keep hk)
            have HZ8 := Aside0.mk (R_keep3 HZ6.out hk (by have := HW0.out; omega))
            have HR8 := Aside0.mk ((HK8.out).rr HR.out)
            have HM8 := Aside0.mk ((HK8.out).mm HM.out)
            clear hrd hb hk HC HG6 HK6 HK8 HZ6 HR HM
            obtain ⟨r0, r1, r2, r3⟩ := (HG8.out).rcells
            obtain ⟨⟨k0, k1, k2⟩, _⟩ := (HG8.out).acells
            cases bOut with
            | true =>
              have HLF3 := Aside0.mk (show RL = linesF S rk.length (lEnd.length + 1) P G M lEnd true by rw [HLF2.out, if_neg (by simp), linesF_bad, linesF_bad])
              go_wp2
              go_roundg 0
              case measure => omega
              case rel => exact ⟨P, G, M, lEnd, true, A2, c2, gs, uu, by simp, rfl, rfl, HLF3, HML, ⟨fun a b => by have h1 := HCN.out a b; have h2 := HELE.out; omega⟩, HG8, HR8, HM8⟩
            | false =>
            obtain ⟨hbB, hsh⟩ := HSUB.out rfl
            have HSH := Aside0.mk hsh
            have HGM := Aside0.mk (show G < rk.length from by
              have h1 := HBE.out
              rw [hbB] at h1
              have h2 := (Bool.or_eq_false_iff.1 h1.symm).2
              rw [HBD.out] at h2
              have h3 := (Bool.or_eq_false_iff.1 h2).2
              have := of_decide_eq_false h3
              omega)
            clear hbB hsh HSUB HBE HBD HEE HOO
            by_cases hPN : P < N
            · have HLF3 := Aside0.mk (show RL = linesF S rk.length (lEnd.length + 1) P G (addAlt M P G NN.1) lEnd false by rw [HLF2.out, if_pos ⟨rfl, by rw [HML.out]; exact hPN⟩]; exact linesF_fuel _ _ _ _ _ _ _ _ _ HSH.out (Nat.lt_succ_self _))
              have hqM : P < M.length := by rw [HML.out]; exact hPN
              have hGm := HGM.out
              have HQM2 := Aside0.mk (And.intro hqM hGm)
              have hPNz : (P : Int) < (N : Int) := by omega
              obtain ⟨ab, cap, e1, q0, c0, f0, ⟨abc, hab⟩, ⟨gbc, hgb⟩, hgB⟩ := (HM8.out).at hqM hGm
              injection e1 with e1 e2 e3
              subst e1 e3
              have HAB := Aside0.mk hab
              have HGB := Aside0.mk hgb
              have HGBB := Aside0.mk hgB
              have HUB := Aside0.mk (HUBO.out P G hqM hGm)
              have HLM := Aside0.mk (show ((M.getD P []).getD G []).length ≤ 65536 from by have := HCN.out P G; have := HSZ.out; omega)
              have HCN2 := Aside0.mk (addAlt_cnt (z := NN.1) hqM (by rw [((HM8.out).rows P hqM).2.2]; exact hGm) HCN.out)
              obtain ⟨A4, c4, e4⟩ := Kd.R_slice ((HM8.out).alts P G hqM hGm)
              rw [e4] at c0
              have HE4 := Aside0.mk e4
              clear hab hgb hgB hqM e2 e4 HUBO HCN
              generalize NN.1 = z at *
              have hbD := below_drew (Below.refl W8.heap.size W8)
              have HGA := Aside0.mk ((HG8.out).below hbD)
              have HRA := Aside0.mk (Kd.R_below HR8.out hbD)
              have HMA := Aside0.mk ((HM8.out).below hbD)
              have HZA := Aside0.mk (Kd.R_below HZ8.out hbD)
              have HALT := Aside0.mk (show kA1.R 69 W8.drew w.heap.size (fun k => w.heap.size + 3 ≤ k) (.slice A4 ((M.getD P []).getD G []).length c4) ((M.getD P []).getD G []) from by rw [← HE4.out]; exact (HMA.out).alts P G (HQM2.out).1 (HQM2.out).2)
              have HUB2 := Aside0.mk (show ∀ kk, (Value.slice A4 ((M.getD P []).getD G []).length c4).ownBlock = some kk → kk < W0.heap.size from by rw [← HE4.out]; exact HUB.out)
              have HABD := Aside0.mk (blk_below HAB.out hbD)
              have HGBD := Aside0.mk (blk_below HGB.out hbD)
              have HRD := Aside0.mk (pw_cell_below hbD q0)
              have HCD := Aside0.mk (pw_cell_below hbD c0)
              have HMAdd := Aside0.mk (fun v5 w5 h1 h2 h3 => (HMA.out).add (W1 := w5) (HQM2.out).1 (HQM2.out).2 z v5 h1 h2 h3)
              rw [HE4.out] at HMAdd
              have HLEN2 := Aside0.mk (show ((M.getD P []).getD G []).length + 1 = ((M.getD P []).getD G [] ++ [z]).length from by simp)
              clear hbD HUB HAB HGB HG8 HR8 HM8 HZ8
              generalize hgg0 : gs.getD P 0 = g at *
              clear hgg0
              generalize hll : ((M.getD P []).getD G []).length = len at *
              have HLL := Aside0.mk hll
              clear hll q0 c0 f0
              go_upto_region 34 with (fail)
              clear k0 k1 k2
              refine wp_region_noPanic ?_
              refine start_ (n := 19) (S := fun w' => w'.cell? ⟨w.heap.size + 2, 2, none⟩ = some (.slice (some ⟨ab, 0, none⟩) N c2) ∧ w'.cell? ⟨ab, P, none⟩ = some (.slice (some ⟨g, 0, none⟩) rk.length rk.length) ∧ w'.cell? ⟨g, G, none⟩ = some (.slice A4 len c4)) (ds := [18]) #[false, false, false, false, false, false, false, false, false, false, false, false, false, false, false, false, false, false, false] (by kernel_rfl) rfl rfl ⟨(HGA.out).acells.1.2.2, HRD.out, HCD.out⟩ (fun hHeld => ?_)
              refine with_tabW tab27c bits27c (fun HT_ HW_ => ?_)
              generalize W8.drew = W10 at HGA HRA HMA HZA HALT HABD HGBD HRD HCD HMAdd hHeld ⊢
              refine take_ (i := 0) (N := some 149) (v := ?_) (a' := ?_) #[true, false, false, false, false, false, false, false, false, false, false, false, false, false, false, false, false, false, false] rfl rfl (take_ofW HT_.out HW_.out (by kernel_rfl)) (fun _ _ _ h => h) (Or.inl ⟨by rfl, ?_⟩) hHeld ?_ ?_
              rotate_left
              · rintro w' ⟨s0, s1, s2⟩
                go_simp
                with_reducible rfl
              rotate_left
              · simp only [Act.put, List.setIfInBounds_toArray, List.set_cons_zero, List.set_cons_succ]
                rfl
              refine take_ (i := 1) (N := some 150) (v := ?_) (a' := ?_) #[true, true, false, false, false, false, false, false, false, false, false, false, false, false, false, false, false, false, false] rfl rfl (take_ofW HT_.out HW_.out (by kernel_rfl)) (fun _ _ _ h => h) (Or.inl ⟨by rfl, ?_⟩) hHeld ?_ ?_
              rotate_left
              · rintro w' ⟨s0, s1, s2⟩
                go_simp
                with_reducible rfl
              rotate_left
              · simp only [Act.put, List.setIfInBounds_toArray, List.set_cons_zero, List.set_cons_succ]
                rfl
              refine take_ (i := 2) (N := some 151) (v := ?_) (a' := ?_) #[true, true, true, false, false, false, false, false, false, false, false, false, false, false, false, false, false, false, false] rfl rfl (take_ofW HT_.out HW_.out (by kernel_rfl)) (fun _ _ _ h => h) (Or.inl ⟨by rfl, ?_⟩) hHeld ?_ ?_
              rotate_left
              · rintro w' ⟨s0, s1, s2⟩
                go_simp
                with_reducible rfl
              rotate_left
              · simp only [Act.put, List.setIfInBounds_toArray, List.set_cons_zero, List.set_cons_succ]
                rfl
              refine take_ (i := 3) (N := some 152) (v := ?_) (a' := ?_) #[true, true, true, true, false, false, false, false, false, false, false, false, false, false, false, false, false, false, false] rfl rfl (take_ofW HT_.out HW_.out (by kernel_rfl)) (fun _ _ _ h => h) (Or.inl ⟨by rfl, ?_⟩) hHeld ?_ ?_
              rotate_left
              · rintro w' ⟨s0, s1, s2⟩
                go_simp
                with_reducible rfl
              rotate_left
              · simp only [Act.put, List.setIfInBounds_toArray, List.set_cons_zero, List.set_cons_succ]
                rfl
              refine take_ (i := 4) (N := some 153) (v := ?_) (a' := ?_) #[true, true, true, true, true, false, false, false, false, false, false, false, false, false, false, false, false, false, false] rfl rfl (take_ofW HT_.out HW_.out (by kernel_rfl)) (fun _ _ _ h => h) (Or.inl ⟨by rfl, ?_⟩) hHeld ?_ ?_
              rotate_left
              · rintro w' ⟨s0, s1, s2⟩
                go_simp
                with_reducible rfl
              rotate_left
              · simp only [Act.put, List.setIfInBounds_toArray, List.set_cons_zero, List.set_cons_succ]
                rfl
              refine take_ (i := 5) (N := some 154) (v := ?_) (a' := ?_) #[true, true, true, true, true, true, false, false, false, false, false, false, false, false, false, false, false, false, false] rfl rfl (take_ofW HT_.out HW_.out (by kernel_rfl)) (fun _ _ _ h => h) (Or.inl ⟨by rfl, ?_⟩) hHeld ?_ ?_
              rotate_left
              · rintro w' ⟨s0, s1, s2⟩
                go_simp
                with_reducible rfl
              rotate_left
              · simp only [Act.put, List.setIfInBounds_toArray, List.set_cons_zero, List.set_cons_succ]
                rfl
              refine take_ (i := 6) (N := some 155) (v := ?_) (a' := ?_) #[true, true, true, true, true, true, true, false, false, false, false, false, false, false, false, false, false, false, false] rfl rfl (take_ofW HT_.out HW_.out (by kernel_rfl)) (fun _ _ _ h => h) (Or.inl ⟨by rfl, ?_⟩) hHeld ?_ ?_
              rotate_left
              · rintro w' ⟨s0, s1, s2⟩
                go_simp
                with_reducible rfl
              rotate_left
              · simp only [Act.put, List.setIfInBounds_toArray, List.set_cons_zero, List.set_cons_succ]
                rfl
              refine take_ (i := 7) (N := some 156) (v := ?_) (a' := ?_) #[true, true, true, true, true, true, true, true, false, false, false, false, false, false, false, false, false, false, false] rfl rfl (take_ofW HT_.out HW_.out (by kernel_rfl)) (fun _ _ _ h => h) (Or.inl ⟨by rfl, ?_⟩) hHeld ?_ ?_
              rotate_left
              · rintro w' ⟨s0, s1, s2⟩
                go_simp
                with_reducible rfl
              rotate_left
              · simp only [Act.put, List.setIfInBounds_toArray, List.set_cons_zero, List.set_cons_succ]
                rfl
              refine take_ (i := 8) (N := some 157) (v := ?_) (a' := ?_) #[true, true, true, true, true, true, true, true, true, false, false, false, false, false, false, false, false, false, false] rfl rfl (take_ofW HT_.out HW_.out (by kernel_rfl)) (fun _ _ _ h => h) (Or.inl ⟨by rfl, ?_⟩) hHeld ?_ ?_
              rotate_left
              · rintro w' ⟨s0, s1, s2⟩
                go_simp
                with_reducible rfl
              rotate_left
              · simp only [Act.put, List.setIfInBounds_toArray, List.set_cons_zero, List.set_cons_succ]
                rfl
              refine take_ (i := 9) (N := some 158) (v := ?_) (a' := ?_) #[true, true, true, true, true, true, true, true, true, true, false, false, false, false, false, false, false, false, false] rfl rfl (take_ofW HT_.out HW_.out (by kernel_rfl)) (fun _ _ _ h => h) (Or.inl ⟨by rfl, ?_⟩) hHeld ?_ ?_
              rotate_left
              · rintro w' ⟨s0, s1, s2⟩
                go_simp
                with_reducible rfl
              rotate_left
              · simp only [Act.put, List.setIfInBounds_toArray, List.set_cons_zero, List.set_cons_succ]
                rfl
              refine take_ (i := 10) (N := some 159) (v := ?_) (a' := ?_) #[true, true, true, true, true, true, true, true, true, true, true, false, false, false, false, false, false, false, false] rfl rfl (take_ofW HT_.out HW_.out (by kernel_rfl)) (fun _ _ _ h => h) (Or.inl ⟨by rfl, ?_⟩) hHeld ?_ ?_
              rotate_left
              · rintro w' ⟨s0, s1, s2⟩
                go_simp
                with_reducible rfl
              rotate_left
              · simp only [Act.put, List.setIfInBounds_toArray, List.set_cons_zero, List.set_cons_succ]
                rfl
              refine take_ (i := 11) (N := some 160) (v := ?_) (a' := ?_) #[true, true, true, true, true, true, true, true, true, true, true, true, false, false, false, false, false, false, false] rfl rfl (take_ofW HT_.out HW_.out (by kernel_rfl)) (fun _ _ _ h => h) (Or.inl ⟨by rfl, ?_⟩) hHeld ?_ ?_
              rotate_left
              · rintro w' ⟨s0, s1, s2⟩
                go_simp
                with_reducible rfl
              rotate_left
              · simp only [Act.put, List.setIfInBounds_toArray, List.set_cons_zero, List.set_cons_succ]
                rfl
              refine take_ (i := 12) (N := some 161) (v := ?_) (a' := ?_) #[true, true, true, true, true, true, true, true, true, true, true, true, true, false, false, false, false, false, false] rfl rfl (take_ofW HT_.out HW_.out (by kernel_rfl)) (fun _ _ _ h => h) (Or.inl ⟨by rfl, ?_⟩) hHeld ?_ ?_
              rotate_left
              · rintro w' ⟨s0, s1, s2⟩
                go_simp
                with_reducible rfl
              rotate_left
              · simp only [Act.put, List.setIfInBounds_toArray, List.set_cons_zero, List.set_cons_succ]
                rfl
              refine take_ (i := 13) (N := some 162) (v := ?_) (a' := ?_) #[true, true, true, true, true, true, true, true, true, true, true, true, true, true, false, false, false, false, false] rfl rfl (take_ofW HT_.out HW_.out (by kernel_rfl)) (fun _ _ _ h => h) (Or.inl ⟨by rfl, ?_⟩) hHeld ?_ ?_
              rotate_left
              · rintro w' ⟨s0, s1, s2⟩
                go_simp
                with_reducible rfl
              rotate_left
              · simp only [Act.put, List.setIfInBounds_toArray, List.set_cons_zero, List.set_cons_succ]
                rfl
              refine take_ (i := 14) (N := some 163) (v := ?_) (a' := ?_) #[true, true, true, true, true, true, true, true, true, true, true, true, true, true, true, false, false, false, false] rfl rfl (take_ofW HT_.out HW_.out (by kernel_rfl)) (fun _ _ _ h => h) (Or.inl ⟨by rfl, ?_⟩) hHeld ?_ ?_
              rotate_left
              · rintro w' ⟨s0, s1, s2⟩
                go_simp
                with_reducible rfl
              rotate_left
              · simp only [Act.put, List.setIfInBounds_toArray, List.set_cons_zero, List.set_cons_succ]
                rfl
              refine one_ (i := 15) (N := some 164) #[true, true, true, true, true, true, true, true, true, true, true, true, true, true, true, true, false, false, false] rfl rfl (one_of HT_.out (by kernel_rfl)) (by decide) (fun K hK => ?_)
              refine value_ (w1 := ?_) (v := ?_) (by rfl) rfl ?_ ?_
              rotate_left 2
              · go_simp
                constructor
                · rfl
                · rfl
              refine hK.out _ _ ⟨pw_cell_below (below_alloc (Below.refl _ _) _) hHeld.1, pw_cell_below (below_alloc (Below.refl _ _) _) hHeld.2.1, pw_cell_below (below_alloc (Below.refl _ _) _) hHeld.2.2⟩ (fun hHeld => ?_)
              clear hK K
              refine norm_ (a' := ?_) ?_ ?_
              rotate_left
              · show Act.put _ (some 164) _ = _
                simp only [Act.put, List.setIfInBounds_toArray, List.set_cons_zero, List.set_cons_succ]
                rfl
              refine one_ (i := 16) (N := some 165) #[true, true, true, true, true, true, true, true, true, true, true, true, true, true, true, true, true, false, false] rfl rfl (one_of HT_.out (by kernel_rfl)) (by decide) (fun K hK => ?_)
              refine Kd.R_append_step kA1 (w0 := w) (W := W10) w.heap.size (by rfl) (.tmp 162) (.tmp 164) 66 69 (.slice none 0 0) 24 rfl Tryz.underlying66 Q.info69 rfl (show 0 < 1 by decide) (by decide) (.slice A4 len c4) ((M.getD P []).getD G []) z [.slice A3 z.length c3] (fun k => w.heap.size + 3 ≤ k) (fun k => W0.heap.size ≤ k) (by rfl) (by rfl) ⟨_, rfl, HZA.out⟩ (fun k hk => ⟨by have := HW0.out; have hk' : W0.heap.size ≤ k := hk; show w.heap.size + 3 ≤ k; omega, fun e => by have := HUB2.out k e.symm; have hk' : W0.heap.size ≤ k := hk; omega⟩) (fun k hk => by have := (HGA.out).lt; have hk' : W10.heap.size ≤ k := hk; show w.heap.size + 3 ≤ k; omega) HALT.out (HGA.out).hb (HGA.out).hb.size (by rw [HLL.out]; have := HLM.out; omega) ?_
              intro v5 w5 ho5 hb5 hg5 hat5
              have HM9 := Aside0.mk (HMAdd.out v5 w5 ho5 hg5 hat5)
              obtain ⟨A5, c5, e5⟩ := Kd.R_slice ho5
              rw [← HLEN2.out] at e5
              subst e5
              have HG9 := Aside0.mk ((HGA.out).app HALT.out hb5 hg5)
              have HR9 := Aside0.mk (R_grown9 HRA.out HALT.out (by decide) (fun _ h => by cases h) hg5)
              have hneA : some ab ≠ (Value.slice A4 len c4).ownBlock := (fun hh => by obtain ⟨⟨cc, hcc⟩, _⟩ := ownBlock_typed HALT.out hh.symm; exact types_ne HABD.out hcc (by decide) rfl)
              have hneG : some g ≠ (Value.slice A4 len c4).ownBlock := (fun hh => by obtain ⟨⟨cc, hcc⟩, _⟩ := ownBlock_typed HALT.out hh.symm; exact types_ne HGBD.out hcc (by decide) rfl)
              have nr := Go.Proofs.YtbmcigakiibncaaGreatDoorW.PrintWords.cell_grown hg5 HRD.out hneA
              have nc := Go.Proofs.YtbmcigakiibncaaGreatDoorW.PrintWords.cell_grown hg5 HCD.out hneG
              have HGB9 := Aside0.mk (blk_grown HGBD.out hg5 hneG)
              have nf := blk_frozen HGB9.out G
              obtain ⟨⟨n0, n1, n2⟩, _⟩ := (HG9.out).acells
              clear hneA hneG ho5 hb5 hg5 hat5 n0 n1
              refine hK.out _ _ ⟨n2, nr, nc⟩ (fun hHeld => ?_)
              clear hK K
              refine norm_ (a' := ?_) ?_ ?_
              rotate_left
              · show Act.put _ (some 165) _ = _
                simp only [Act.put, List.setIfInBounds_toArray, List.set_cons_zero, List.set_cons_succ]
                rfl
              refine take_ (i := 17) (N := some 166) (v := ?_) (a' := ?_) #[true, true, true, true, true, true, true, true, true, true, true, true, true, true, true, true, true, true, false] rfl rfl (take_ofW HT_.out HW_.out (by kernel_rfl)) (fun _ _ _ h => h) (Or.inl ⟨by rfl, ?_⟩) hHeld ?_ ?_
              rotate_left
              · rintro w' ⟨s0, s1, s2⟩
                go_simp
                with_reducible rfl
              rotate_left
              · simp only [Act.put, List.setIfInBounds_toArray, List.set_cons_zero, List.set_cons_succ]
                rfl
              refine last_ (i := 18) (N := none) #[true, true, true, true, true, true, true, true, true, true, true, true, true, true, true, true, true, true, true] rfl rfl (one_of HT_.out (by kernel_rfl)) (by decide) (fun K hK => ?_)
              refine skip_ (w1 := ?_) (by rfl) rfl ?_ ?_
              rotate_left
              · go_simp
                rfl
              refine hK.out _ _ ?_
              clear hK K
              refine done_ (done_of HT_.out (by kernel_rfl)) ?_
              refine NoPanic.normal ?_
              clear n2 nr nc nf hHeld r0 r1 r2 r3
              go_wp2
              go_roundg (lEnd.length + 1)
              case measure => have := HSH.out; omega
              case rel => exact ⟨P, G, addAlt M P G z, lEnd, false, _, c2, gs, _, by simp, rfl, rfl, HLF3, ⟨by rw [addAlt_len]; exact HML.out⟩, ⟨fun a b => by have h1 := HCN2.out a b; have h2 := HSH.out; have h3 := HSL.out; omega⟩, ⟨(HG9.out).far HGBB.out _⟩, ⟨R_other HR9.out g (fun x => by obtain ⟨⟨cc, hcc⟩, _⟩ := ownBlock_typed HR9.out x; exact types_ne hcc HGB9.out (by decide) rfl) (fun _ h => by cases h) (fun kk hkk _ => Below.heap_setCell _ _ _ kk hkk)⟩, HM9⟩
            · have HLF3 := Aside0.mk (show RL = linesF S rk.length (lEnd.length + 1) P G M lEnd false by rw [HLF2.out, if_neg (fun h => hPN (by rw [← HML.out]; exact h.2))]; exact linesF_fuel _ _ _ _ _ _ _ _ _ HSH.out (Nat.lt_succ_self _))
              have hPNz : ¬ (P : Int) < (N : Int) := by omega
              go_wp2
              go_roundg (lEnd.length + 1)
              case measure => have := HSH.out; omega
              case rel => exact ⟨P, G, M, lEnd, false, A2, c2, gs, uu, by simp, rfl, rfl, HLF3, HML, ⟨fun a b => by have h1 := HCN.out a b; have h2 := HELE.out; omega⟩, HG8, HR8, HM8⟩
      case rest =>
      clear HG9 HR9 HMZ HLF
      obtain ⟨l, A2, c2, gs, uu, HG, HR, HM⟩ := hcut
      obtain ⟨r0, r1, r2, r3⟩ := (HG.out).rcells
      obtain ⟨M, bad⟩ := RL
      simp only at HG HM HREF r2
      cases bad with
      | true =>
        have HRR := Aside0.mk (show getR t = (4, [], 0, []) by rw [HREF.out, if_pos rfl])
        obtain ⟨f0, f1, f2⟩ := (HG.out).ocells
        obtain ⟨k0, k1, k2⟩ := box3_cells (HG.out).hr
        obtain ⟨hbk, hfin⟩ := rget_fin HG.out (rk := []) (M := []) none 0 none 0 HRR.out ⟨rfl, by simp, fun h => absurd h (by simp)⟩ (Nat.le_refl _) ⟨rfl, by simp, fun h => absurd h (by simp)⟩ (Nat.le_refl _)
        have HBK := Aside0.mk hbk
        have HFIN := Aside0.mk hfin
        clear hbk hfin
        unfold put3 at HBK HFIN
        go_wp2
        refine bodyPost_ret (results_row_tmp rfl _ _ w.heap.size 25 #[.slice none 0 0, .int .i64 0, .slice none 0 0] (0, 0) _ rfl HBK.out Tryz.underlying25 rfl (by kernel_rfl)) rfl ?_
        exact HFIN.out
      | false =>
        have hrd := Kd.R_reads' (HR.out)
        obtain ⟨A2', c2', e, hle, hCM⟩ := (HM.out).reads (by have := HRKL.out; omega)
        injection e with e1 e2 e3
        subst e1 e3
        have HIS := Aside0.mk (isA_calls rk M (st : Int) A c A2 c2 wc hrd.2.2 hrd.2.1 hCM hle)
        have HC1 := Aside0.mk hrd.2.1
        have HC2 := Aside0.mk hle
        obtain ⟨⟨k0, k1, k2⟩, _⟩ := (HG.out).acells
        clear e2 hrd hle hCM
        go_wp2_with fail
        refine (HIS.out).mono ?_
        rintro E W2 ⟨rfl, hb⟩
        have HG2 := Aside0.mk ((HG.out).below hb)
        have HR2 := Aside0.mk (Kd.R_below HR.out hb)
        have HM2 := Aside0.mk ((HM.out).below hb)
        clear hb HG HR HM HIS k0 k1 k2 r0 r1 r2 r3
        obtain ⟨f0, f1, f2⟩ := (HG2.out).ocells
        obtain ⟨k0, k1, k2⟩ := box3_cells (HG2.out).hr
        cases hau : auB rk (st : Int) M with
        | false =>
          have HRR := Aside0.mk (show getR t = (10, [], 0, []) by rw [HREF.out, if_neg (by decide), hau]; rfl)
          obtain ⟨hbk, hfin⟩ := rget_fin HG2.out (rk := []) (M := []) none 0 none 0 HRR.out ⟨rfl, by simp, fun h => absurd h (by simp)⟩ (Nat.le_refl _) ⟨rfl, by simp, fun h => absurd h (by simp)⟩ (Nat.le_refl _)
          have HBK := Aside0.mk hbk
          have HFIN := Aside0.mk hfin
          clear hbk hfin hau
          unfold put3 at HBK HFIN
          go_wp2
          refine bodyPost_ret (results_row_tmp rfl _ _ w.heap.size 25 #[.slice none 0 0, .int .i64 0, .slice none 0 0] (0, 0) _ rfl HBK.out Tryz.underlying25 rfl (by kernel_rfl)) rfl ?_
          exact HFIN.out
        | true =>
          have HRR := Aside0.mk (show getR t = (0, rk, (st : Int), M) by rw [HREF.out, if_neg (by decide), hau]; rfl)
          have hc1 := (Kd.R_reads' (R_same (w1 := put3 W2 w.heap.size (.slice A rk.length c) (.int .i64 (st : Int)) (.slice A2 M.length c2)) HR2.out (fun k hk _ => put3_heap _ _ _ _ _ k (by have h0 : w.heap.size + 3 ≤ k := hk; omega)))).2.2
          have hmm := (HM2.out).move (W1 := put3 W2 w.heap.size (.slice A rk.length c) (.int .i64 (st : Int)) (.slice A2 M.length c2)) (fun k h1 h2 => put3_heap _ _ _ _ _ k (by omega))
          obtain ⟨A2', c2', e, hle, hCM⟩ := hmm.reads (by have := HRKL.out; omega)
          injection e with e1 e2 e3
          subst e1 e3
          obtain ⟨hbk, hfin⟩ := rget_fin HG2.out A c A2 c2 HRR.out hc1 HC1.out hCM HC2.out
          have HBK := Aside0.mk hbk
          have HFIN := Aside0.mk hfin
          obtain ⟨⟨a0, a1, a2⟩, _⟩ := (HG2.out).acells
          clear hbk hfin hau hc1 hmm e2 hle hCM
          unfold put3 at HBK HFIN
          go_wp2
          refine bodyPost_ret (results_row_tmp rfl _ _ w.heap.size 25 #[.slice A rk.length c, .int .i64 (st : Int), .slice A2 M.length c2] (0, 0) _ rfl HBK.out Tryz.underlying25 rfl (by kernel_rfl)) rfl ?_
          exact HFIN.out
end Go.Proofs.YtbmcigakiibncaaGreatDoor.H
namespace Go.Proofs.YtbmcigakiibncaaGreatDoor.H
open Go.RowKit Go.Proofs.YtbmcigakiibncaaGreatDoorW.PrintWords Go.Proofs.YtbmcigakiibncaaGreatDoorW.PrintLast Go.Proofs.YtbmcigakiibncaaGreatDoorW.PrintMore
set_option linter.unusedVariables false
set_option linter.unusedSimpArgs false
def eqF {α : Type} (d : α) (p : α → α → Bool) (a b : List α) : Bool := decide (a.length = b.length) && allF (fun i => p (a.getD i d) (b.getD i d)) 0 a.length
theorem eqF_iff {α : Type} {d : α} {p : α → α → Bool} (hp : ∀ x y, p x y = true ↔ x = y) (a b : List α) : eqF d p a b = true ↔ a = b := by
  unfold eqF
  rw [Bool.and_eq_true, allF_iff, decide_eq_true_eq]
  constructor
  · rintro ⟨h1, h2⟩
    refine List.ext_getElem h1 fun i hi hj => ?_
    have h3 := (hp _ _).1 (h2 i (Nat.zero_le _) (by omega))
    simpa [List.getD_eq_getElem?_getD, hi, hj] using h3
  · rintro rfl
    exact ⟨rfl, fun i _ _ => (hp _ _).2 rfl⟩
def ndEq (x y : Nd) : Bool := x.f0 == y.f0 && x.f1 == y.f1
theorem ndEq_iff (x y : Nd) : ndEq x y = true ↔ x = y := by
  cases x; cases y; simp [ndEq]
def eq1 : List Nd → List Nd → Bool := eqF zN ndEq
def eq2 : List (List Nd) → List (List Nd) → Bool := eqF [] eq1
def eq3 : List (List (List Nd)) → List (List (List Nd)) → Bool := eqF [] eq2
def eq4 : Mv → Mv → Bool := eqF [] eq3
theorem eq1_iff (a b : List Nd) : eq1 a b = true ↔ a = b := eqF_iff ndEq_iff a b
theorem eq2_iff (a b : List (List Nd)) : eq2 a b = true ↔ a = b := eqF_iff eq1_iff a b
theorem eq3_iff (a b : List (List (List Nd))) : eq3 a b = true ↔ a = b := eqF_iff eq2_iff a b
theorem eq4_iff (a b : Mv) : eq4 a b = true ↔ a = b := eqF_iff eq3_iff a b
theorem eqF_len {α : Type} {d : α} {p : α → α → Bool} {a b : List α} (h : a.length ≠ b.length) : eqF d p a b = false := by unfold eqF; rw [decide_eq_false h]; rfl
theorem eqF_at {α : Type} {d : α} {p : α → α → Bool} {a b : List α} {i : Nat} (hi : i < a.length) (h : p (a.getD i d) (b.getD i d) = false) : eqF d p a b = false := by
  cases e : eqF d p a b with
  | false => rfl
  | true =>
    unfold eqF at e
    rw [Bool.and_eq_true, allF_iff] at e
    have := e.2 i (Nat.zero_le _) (by omega)
    rw [h] at this; cases this
theorem eqF_all {α : Type} {d : α} {p : α → α → Bool} {a b : List α} (hl : a.length = b.length) (h : ∀ i, i < a.length → p (a.getD i d) (b.getD i d) = true) : eqF d p a b = true := by
  unfold eqF
  rw [decide_eq_true hl, Bool.true_and, allF_iff]
  exact fun i _ hi => h i (by omega)
end Go.Proofs.YtbmcigakiibncaaGreatDoor.H
namespace Go.Proofs.YtbmcigakiibncaaGreatDoor.H
open Go.RowKit Go.Proofs.YtbmcigakiibncaaGreatDoorW.PrintWords Go.Proofs.YtbmcigakiibncaaGreatDoorW.PrintLast Go.Proofs.YtbmcigakiibncaaGreatDoorW.PrintMore
set_option linter.unusedVariables false
set_option linter.unusedSimpArgs false
def eqI : List Int → List Int → Bool := eqF 0 (fun x y => decide (x = y))
theorem eqI_iff (a b : List Int) : eqI a b = true ↔ a = b := eqF_iff (fun x y => decide_eq_true_iff) a b
theorem rdI_at {l : List Int} {j : Nat} : rd l (j : Int) = l.getD j 0 := by simp [rd]
theorem eqI_l0 (a b : List Int) (hm : a.length ≤ 9223372036854775807) (hl : a.length = b.length) (d : Nat) : ∀ j : Nat, a.length - j = d → j ≤ a.length → Ev (fun k => Q.slices_Equal_int_int.l0 k a b (a.length : Int) (j : Int)) (allF (fun i => decide (a.getD i 0 = b.getD i 0)) j d) := by
  induction d with
  | zero =>
    intro j hd hj
    refine ev_end fun k => ?_
    simp only [Q.slices_Equal_int_int.l0]
    rw [if_neg (by omega)]; rfl
  | succ d ih =>
    intro j hd hj
    rw [allF]
    by_cases e : a.getD j 0 = b.getD j 0
    · rw [decide_eq_true e, Bool.true_and]
      refine ev_next (ih (j + 1) (by omega) (by omega)) fun k => ?_
      simp only [Q.slices_Equal_int_int.l0]
      rw [rdI_at, rdI_at, if_pos (by omega), if_pos (by omega), if_pos (by omega), if_pos (by omega), if_pos e, wrap_succ (by omega) (by omega)]
      rfl
    · rw [decide_eq_false e, Bool.false_and]
      refine ev_end fun k => ?_
      simp only [Q.slices_Equal_int_int.l0]
      rw [rdI_at, rdI_at, if_pos (by omega), if_pos (by omega), if_pos (by omega), if_pos (by omega), if_neg e]
theorem eqI_ev (a b : List Int) (hm : a.length ≤ 9223372036854775807) : Ev (fun k => Q.slices_Equal_int_int.f k a b) (eqI a b) := by
  unfold Q.slices_Equal_int_int.f
  by_cases hl : a.length = b.length
  · simp only [if_pos (show (a.length : Int) = (b.length : Int) by omega)]
    have h := eqI_l0 a b hm hl _ 0 rfl (Nat.zero_le _)
    unfold eqI eqF
    rw [decide_eq_true hl, Bool.true_and]
    exact h
  · simp only [if_neg (show ¬ (a.length : Int) = (b.length : Int) by omega)]
    rw [show eqI a b = false from eqF_len hl]
    exact ev_end fun k => rfl
theorem sr_eq : ∀ (k : Nat) (x0 x1 : List Int) (x12 x13 : Int), Q.virgationref09_SameRanks.l0 k x0 x1 x12 x13 = Q.slices_Equal_int_int.l0 k x0 x1 x12 x13
  | 0, _, _, _, _ => rfl
  | k + 1, x0, x1, x12, x13 => by
    simp only [Q.virgationref09_SameRanks.l0, Q.slices_Equal_int_int.l0]
    rw [sr_eq k]
theorem sameRanks_ev (a b : List Int) (hm : a.length ≤ 9223372036854775807) : Ev (fun k => Q.virgationref09_SameRanks.f k a b) (eqI a b) :=
  Ev.congr (fun k => by unfold Q.virgationref09_SameRanks.f Q.slices_Equal_int_int.f; rw [sr_eq]) (eqI_ev a b hm)
theorem eqMoves_l0 (a b : List (List Nd)) (hm : a.length ≤ 9223372036854775807) (hx : ∀ x ∈ a, x.length ≤ 9223372036854775807) (hl : a.length = b.length) (d : Nat) : ∀ j : Nat, a.length - j = d → j ≤ a.length → Ev (fun k => Q.virgationref09_EqualMoves.l0 k a b (a.length : Int) (j : Int)) (allF (fun i => eq1 (a.getD i []) (b.getD i [])) j d) := by
  induction d with
  | zero =>
    intro j hd hj
    refine ev_end fun k => ?_
    simp only [Q.virgationref09_EqualMoves.l0]
    rw [if_neg (by omega)]; rfl
  | succ d ih =>
    intro j hd hj
    rw [allF]
    refine ev_next (f := fun k => (Q.virgationref09_Compare.f k (a.getD j []) (b.getD j [])).bind fun t => if t = 0 then Q.virgationref09_EqualMoves.l0 k a b (a.length : Int) ((j + 1 : Nat) : Int) else some false) (Ev.bind (compareF_ev _ _ (hx _ (getD_memD [] (by omega)))) ?_) fun k => ?_
    · by_cases e : a.getD j [] = b.getD j []
      · rw [(eq1_iff _ _).2 e, Bool.true_and, e, cmpL_self]
        simp only [if_pos (show sgI 0 = 0 from rfl)]
        exact ih (j + 1) (by omega) (by omega)
      · have e1 : eq1 (a.getD j []) (b.getD j []) = false := by
          cases h : eq1 (a.getD j []) (b.getD j []) with
          | false => rfl
          | true => exact absurd ((eq1_iff _ _).1 h) e
        rw [e1, Bool.false_and]
        simp only [if_neg (show ¬ sgI (cmpL (a.getD j []) (b.getD j [])) = 0 from fun h => e (cmpL_zero ((sgI_zero _).1 h)))]
        exact ev_end fun k => rfl
    · simp only [Q.virgationref09_EqualMoves.l0]
      rw [rdL2_at, rdL2_at, if_pos (by omega), if_pos (by omega), if_pos (by omega), if_pos (by omega), wrap_succ (by omega) (by omega)]
      rfl
theorem eqMoves_ev (a b : List (List Nd)) (hm : a.length ≤ 9223372036854775807) (hx : ∀ x ∈ a, x.length ≤ 9223372036854775807) : Ev (fun k => Q.virgationref09_EqualMoves.f k a b) (eq2 a b) := by
  unfold Q.virgationref09_EqualMoves.f
  by_cases hl : a.length = b.length
  · simp only [if_pos (show (a.length : Int) = (b.length : Int) by omega)]
    have h := eqMoves_l0 a b hm hx hl _ 0 rfl (Nat.zero_le _)
    unfold eq2 eqF
    rw [decide_eq_true hl, Bool.true_and]
    exact h
  · simp only [if_neg (show ¬ (a.length : Int) = (b.length : Int) by omega)]
    rw [show eq2 a b = false from eqF_len hl]
    exact ev_end fun k => rfl
def sameB (rk : List Int) (st : Int) (M : Mv) (rk' : List Int) (st' : Int) (M' : Mv) : Bool := auB rk st M && (auB rk' st' M' && (eqI rk rk' && (decide (st = st') && eq4 M M')))
end Go.Proofs.YtbmcigakiibncaaGreatDoor.H
namespace Go.Proofs.YtbmcigakiibncaaGreatDoor.H
open Go.RowKit Go.Proofs.YtbmcigakiibncaaGreatDoorW.PrintWords Go.Proofs.YtbmcigakiibncaaGreatDoorW.PrintLast Go.Proofs.YtbmcigakiibncaaGreatDoorW.PrintMore
set_option linter.unusedVariables false
set_option linter.unusedSimpArgs false
set_option maxHeartbeats 8000000 in
set_option maxRecDepth 100000 in
theorem get_calls (t : ByteArray) (w : World) (hm : MX w) :
    Calls Tryz.prog 26 #[.string t] w (GetE t w) := by
  have hmf := run_mkfun9
  have HM := Aside0.mk hm
  have HG := Aside0.mk (GH.start w)
  clear hm
  go_enter_defers Tryz.func26, Tryz.ntmps26
  go_upto_region 1 with (fail)
  generalize ((w.alloc (.cells #[.slice none 0 0, .int .i64 0, .slice none 0 0] 25)).alloc (.cells #[.int .i64 0] 29)) = W1 at *
  cases q1 : decide ((t.size : Int) > 65536) with
  | true =>
    obtain ⟨c0, c1, c2, c3⟩ := (HG.out).cells
    obtain ⟨f0, f1, f2, f3⟩ := (HG.out).frozen
    have HR := Aside0.mk (show getR t = (3, [], 0, []) by unfold getR; rw [if_pos (by have := of_decide_eq_true q1; omega)])
    have HQ := Aside0.mk ((((HG.out).set0 (.slice none 0 0)).set1 (.int .i64 0)).set2 (.slice none 0 0))
    go_wp2
    exact get_ret0 HR.out ((HQ.out).hb.setCell (p := ⟨w.heap.size + 1, 0, none⟩) (Nat.le_succ _) _) (blk_far (HQ.out).ha (by show w.heap.size ≠ w.heap.size + 1; omega) _) (blk_set (HQ.out).he 0 _) _ rfl rfl
  | false =>
  have hsz : t.size ≤ 65536 := by have := of_decide_eq_false q1; omega
  have HSZ := Aside0.mk hsz
  have HSP := Aside0.mk (split_calls t 10 W1 (by omega) ((HM.out).below (HG.out).hb))
  clear q1
  go_wp2_with fail
  refine (HSP.out).mono ?_
  rintro E w2 ⟨rfl, hw⟩
  have hb := below_alloc (Below.refl W1.heap.size W1) (.cells ((chunks t 10).map Value.string).toArray 9)
  have hbn := blk_new W1 (.cells ((chunks t 10).map Value.string).toArray 9)
  rw [← hw] at hb hbn
  have HG2 := Aside0.mk (GL.mk ((HG.out).below hb) hbn (by have := blk_lt (HG.out).he; omega))
  have HLS := Aside0.mk (show (chunks t 10).length ≤ 65537 from by have := chunks_short t 10; omega)
  have HV1 := Aside0.mk (fun h => getV_short (t := t) h)
  have HV2 := Aside0.mk (fun h => getV_end (t := t) h)
  have HV3 := Aside0.mk (fun h => getV_first (t := t) h)
  have HV4 := Aside0.mk (fun i hi h => getV_rank (t := t) (i := i) hi h)
  have HV5 := Aside0.mk (fun h => getV_second (t := t) h)
  have HV6 := Aside0.mk (fun h => getV_sec (t := t) h)
  have HCS := Aside0.mk (fun i => chunk_size t 10 i)
  clear hw hb hbn HG HSP
  generalize hLL : chunks t 10 = L at *
  generalize W1.heap.size = bl at *
  cases q2 : decide ((L.length : Int) < 3) with
  | true =>
    have HN := Aside0.mk (HV1.out (by have := of_decide_eq_true q2; omega))
    go_wp2
    exact get_panic (getR_bad HSZ.out HN.out) (HG2.out).g _ rfl rfl
  | false =>
  have hl3 : 3 ≤ L.length := by have := of_decide_eq_false q2; omega
  have HL3 := Aside0.mk hl3
  have hk := strs_cell (HG2.out).l (show L.length - 1 < L.length by omega)
  have hk0 := strs_cell (HG2.out).l (show 0 < L.length by omega)
  have HLE := Aside0.mk (HV2.out)
  clear HV2
  generalize hle : L.getD (L.length - 1) ByteArray.empty = le at *
  have HLEE := Aside0.mk hle
  generalize hs0 : L.getD 0 ByteArray.empty = s0 at *
  have HS0 := Aside0.mk hs0
  have HS0Z := Aside0.mk (show s0.size ≤ t.size by rw [← hs0]; exact HCS.out 0)
  clear hle hs0
  have hz2 : IntKind.i64.wrap ((L.length : Int) - 1) = (L.length : Int) - 1 := by have := HLS.out; simp [IntKind.wrap, IntKind.bits, IntKind.signed]; omega
  cases q3 : le.toList.isEmpty with
  | false =>
    have HN := Aside0.mk (HLE.out (fun e => by rw [e, Lib.toList_data] at q3; revert q3; decide))
    go_wp2
    exact get_panic (getR_bad HSZ.out HN.out) (HG2.out).g _ rfl rfl
  | true =>
    have HWO := Aside0.mk (wordsB_calls s0 sRanks w2 (by have := HS0Z.out; omega) ((HM.out).below (HG2.out).g.hb))
    go_wp2_with fail
    refine (HWO.out).mono ?_
    rintro E w3 ⟨hb, ⟨hne, rfl⟩ | ⟨hhd, o, rfl, ho, hws⟩⟩
    · have HN := Aside0.mk (HV3.out hne)
      have HG3 := Aside0.mk ((HG2.out).below hb)
      unfold pbad
      go_wp2
      exact get_panic (getR_bad HSZ.out HN.out) (HG3.out).g _ rfl rfl
    · have HG3 := Aside0.mk ((HG2.out).below hb)
      have HWS := Aside0.mk hws
      have HO := Aside0.mk ho
      have HHD := Aside0.mk hhd
      have HBW := Aside0.mk (show w.heap.size + 2 ≤ w2.heap.size from by have := blk_lt (HG2.out).l; have := (HG2.out).hbl; omega)
      have HLEM := Aside0.mk (show le = ByteArray.empty from string_inj (by rw [Lib.toList_data, Lib.toList_data]; rw [Lib.toList_data] at q3; rw [List.isEmpty_iff.1 q3]; rfl))
      clear hb hws ho hhd hk hk0 hz2 HG2 HWO q2 q3
      generalize w2.heap.size = bw at *
      generalize hws0 : chunks s0 32 = ws at *
      generalize hwd : ws.drop 1 = wd at *
      have HWZ := Aside0.mk (show ∀ i, (wd.getD i ByteArray.empty).size ≤ s0.size from fun i => by
        have h1 := chunk_size s0 32 (1 + i)
        rw [hws0] at h1
        rw [← hwd]
        rw [show (ws.drop 1).getD i ByteArray.empty = ws.getD (1 + i) ByteArray.empty by simp [List.getD_eq_getElem?_getD, List.getElem?_drop, Nat.add_comm]]
        exact h1)
      have HWD := Aside0.mk hwd
      have HWS0 := Aside0.mk hws0
      have HWL := Aside0.mk (show wd.length ≤ 65536 from by
        have h1 := chunks_short s0 32
        rw [hws0] at h1
        rw [← hwd, List.length_drop]
        have := HS0Z.out; have := HSZ.out
        omega)
      clear hwd hws0
      go_wp2
      go_loopg [47] wd.length (fun gg v47 wi => ∃ (i : Nat) (A : Option Addr) (c : Nat), i ≤ wd.length ∧ wd.length - i ≤ gg ∧ v47 = .int .i64 i ∧ Aside0 (GL w wi (.slice A i c) (.int .i64 0) (.slice none 0 0) bl L) ∧ Aside0 (wi.heap[bw]? = some (.cells (ws.map Value.string).toArray 9 (0, 0))) ∧ Aside0 (Kd.R (Kd.int .i64) 3 wi w.heap.size (fun k => w.heap.size + 2 ≤ k) (.slice A i c) ((wd.take i).map valW)) ∧ Aside0 (∀ j, j < i → okW (wd.getD j ByteArray.empty) = true))
      case atStart => exact ⟨0, none, 0, Nat.zero_le _, Nat.le_refl _, rfl, HG3, HWS, ⟨Kd.R_nil _ _ _ _ _⟩, ⟨fun j hj => absurd hj (Nat.not_lt_zero _)⟩⟩
      case round =>
        clear HG3 HWS
        obtain ⟨i, A, c, hi, hgg, rfl, HG4, HWB, HR, HOK⟩ := hrel
        by_cases hlt : i < wd.length
        · have hltz : (i : Int) < (wd.length : Int) := by omega
          have hk := words_cell (HWB.out) (show i < (ws.drop 1).length by rw [HWD.out]; exact hlt) (by rw [HWD.out]; exact HO.out)
          rw [HWD.out] at hk
          have HS1Z := Aside0.mk (HWZ.out i)
          have HS1B := Aside0.mk (HV4.out i)
          generalize hs1 : wd.getD i ByteArray.empty = s1 at *
          have HS1 := Aside0.mk hs1
          clear hs1
          go_upto_region 10 with (fail)
          clear hk
          have HN := Aside0.mk (number_calls s1 wr.drew (by have := HS1Z.out; have := HS0Z.out; have := HSZ.out; omega))
          obtain ⟨k0, k1, k2, k3⟩ := (HG4.out).g.cells
          cases q4 : okW s1 with
          | false =>
            have HX := Aside0.mk (HS1B.out hlt q4)
            have HNE := Aside0.mk (show numE s1.data.toList = pbad by unfold numE; rw [show numOk s1.data.toList = false from q4]; rfl)
            rw [HNE.out] at HN
            have HPX := Aside0.mk (fun w4 (hb : Below wr.drew.heap.size wr.drew w4) => (HG4.out).below (below_then (below_drew (Below.refl wr.heap.size wr)) (below_drew (Below.refl wr.heap.size wr)).size hb))
            refine wp_region_any (by kernel_rfl) ?_
            change wpAny _ _ _ _ _ _ _ (World.drew _)
            refine wpAny_ready (rs := [0, 2]) (by kernel_rfl) (by simp) ?_
            refine AllReady.cons rfl (fun K hK => ?_) ?_
            · go_simp
              refine hK _ _ ?_
              clear hK K
              refine wpAny_ready (rs := [1, 2]) (by kernel_rfl) (by simp) ?_
              refine AllReady.cons rfl (fun K hK => ?_) ?_
              · go_simp
                refine hK _ _ ?_
                clear hK K
                refine wpAny_ready (rs := [2]) (by kernel_rfl) (by simp) ?_
                refine AllReady.cons rfl (fun K hK => ?_) ?_
                · go_simp
                  refine hK _ _ ?_
                  clear hK K
                  refine wpAny_ready (rs := [3]) (by kernel_rfl) (by simp) ?_
                  refine AllReady.cons rfl (fun K hK => ?_) ?_
                  · go_simp
                    go_wp2_with (go_at_call 61; refine (HN.out).mono ?_; rintro E w4 ⟨rfl, hb⟩; exact get_panic (getR_bad HSZ.out HX.out) ((HPX.out) _ hb).g _ rfl rfl)
                  exact AllReady.nil
                exact AllReady.nil
              refine AllReady.cons rfl (fun K hK => ?_) ?_
              · go_simp
                refine hK _ _ ?_
                clear hK K
                refine wpAny_ready (rs := [1, 3]) (by kernel_rfl) (by simp) ?_
                refine AllReady.cons rfl (fun K hK => ?_) ?_
                · go_simp
                  refine hK _ _ ?_
                  clear hK K
                  refine wpAny_ready (rs := [3]) (by kernel_rfl) (by simp) ?_
                  refine AllReady.cons rfl (fun K hK => ?_) ?_
                  · go_simp
                    go_wp2_with (go_at_call 61; refine (HN.out).mono ?_; rintro E w4 ⟨rfl, hb⟩; exact get_panic (getR_bad HSZ.out HX.out) ((HPX.out) _ hb).g _ rfl rfl)
                  exact AllReady.nil
                refine AllReady.cons rfl (fun K hK => ?_) ?_
                · go_simp
                  go_wp2_with (go_at_call 61; refine (HN.out).mono ?_; rintro E w4 ⟨rfl, hb⟩; exact get_panic (getR_bad HSZ.out HX.out) ((HPX.out) _ hb).g _ rfl rfl)
                exact AllReady.nil
              exact AllReady.nil
            refine AllReady.cons rfl (fun K hK => ?_) ?_
            · go_simp
              refine hK _ _ ?_
              clear hK K
              refine wpAny_ready (rs := [0, 3]) (by kernel_rfl) (by simp) ?_
              refine AllReady.cons rfl (fun K hK => ?_) ?_
              · go_simp
                refine hK _ _ ?_
                clear hK K
                refine wpAny_ready (rs := [1, 3]) (by kernel_rfl) (by simp) ?_
                refine AllReady.cons rfl (fun K hK => ?_) ?_
                · go_simp
                  refine hK _ _ ?_
                  clear hK K
                  refine wpAny_ready (rs := [3]) (by kernel_rfl) (by simp) ?_
                  refine AllReady.cons rfl (fun K hK => ?_) ?_
                  · go_simp
                    go_wp2_with (go_at_call 61; refine (HN.out).mono ?_; rintro E w4 ⟨rfl, hb⟩; exact get_panic (getR_bad HSZ.out HX.out) ((HPX.out) _ hb).g _ rfl rfl)
                  exact AllReady.nil
                refine AllReady.cons rfl (fun K hK => ?_) ?_
                · go_simp
                  go_wp2_with (go_at_call 61; refine (HN.out).mono ?_; rintro E w4 ⟨rfl, hb⟩; exact get_panic (getR_bad HSZ.out HX.out) ((HPX.out) _ hb).g _ rfl rfl)
                exact AllReady.nil
              refine AllReady.cons rfl (fun K hK => ?_) ?_
              · go_simp
                go_wp2_with (go_at_call 61; refine (HN.out).mono ?_; rintro E w4 ⟨rfl, hb⟩; exact get_panic (getR_bad HSZ.out HX.out) ((HPX.out) _ hb).g _ rfl rfl)
              exact AllReady.nil
            exact AllReady.nil
          | true =>
            have HQ4 := Aside0.mk q4
            refine wp_region_noPanic ?_
            have HN2 := Aside0.mk (show numE s1.data.toList = .returned (.int .i64 (valW s1)) by unfold numE; rw [show numOk s1.data.toList = true from q4]; rfl)
            rw [HN2.out] at HN
            have HPX := Aside0.mk (fun w4 (hb : Below wr.drew.heap.size wr.drew w4) => below_then (below_drew (Below.refl wr.heap.size wr)) (below_drew (Below.refl wr.heap.size wr)).size hb)
            have HLT := Aside0.mk hlt
            have hlen : (((wd.take i).map valW).length + 1) * 8 ≤ 140737488355328 := by rw [List.length_map, List.length_take]; have := HWL.out; omega
            have HLEN := Aside0.mk (show ((wd.take i).map valW).length = i by rw [List.length_map, List.length_take]; omega)
            have HTK := Aside0.mk (show (wd.take i).map valW ++ [valW s1] = (wd.take (i + 1)).map valW by
              rw [List.take_add_one, List.map_append]
              congr 1
              have e : wd[i]? = some s1 := by rw [← HS1.out]; simp [List.getD_eq_getElem?_getD, hlt]
              rw [e]; rfl)
            have HLE1 := Aside0.mk (show ((wd.take (i + 1)).map valW).length = i + 1 by rw [List.length_map, List.length_take]; omega)
            go_region_law (first
              | (go_simp; go_at_call 61; refine (HN.out).mono ?_; rintro E w4 ⟨rfl, hb⟩; have HB4 := Aside0.mk ((HPX.out) w4 hb); clear hb; have HG5 := Aside0.mk ((HG4.out).below HB4.out); have HR5 := Aside0.mk (Kd.R_below HR.out HB4.out); have HWB5 := Aside0.mk (blk_below HWB.out HB4.out); obtain ⟨m0, m1, m2, m3⟩ := (HG5.out).g.cells; have l0 := pw_cell_below (below_alloc (Below.refl w4.heap.size w4) (.cells #[.int .i64 (valW s1)] 3)) m0)
              | (refine Kd.R_append_step (Kd.int .i64) (w0 := w) (W := w4) w.heap.size (by simp [Region.wanted]) (.tmp 52) (.tmp 55) 22 3 (.int .i64 0) 8 rfl Tryz.underlying22 Q.info3 rfl (by decide) (by omega) (.slice A i c) ((wd.take i).map valW) (valW s1) [.int .i64 (valW s1)] (fun k => w.heap.size + 2 ≤ k) (fun _ => False) (by rfl) (by rfl) rfl (fun _ hk => hk.elim) (fun k hk => by have := blk_lt (HG5.out).l; have := (HG5.out).hbl; omega) HR5.out (HG5.out).g.hb (HG5.out).g.hb.size hlen ?_; intro v5 w5 ho5 hb5 hg5 hat5; rw [HTK.out] at ho5; (obtain ⟨A5, c5, e5⟩ := Kd.R_slice ho5); rw [HLE1.out] at e5; subst e5; have HR6 := Aside0.mk ho5; have HG6 := Aside0.mk ((HG5.out).app HR5.out (by decide) hb5 hg5); have HWB6 := Aside0.mk (blk_grown HWB5.out hg5 (fun hk => by obtain ⟨⟨cc, hcc⟩, _⟩ := ownBlock_typed HR5.out hk.symm; exact types_ne hcc HWB5.out (by decide) rfl)); clear ho5 hb5 hg5 hat5; obtain ⟨n0, n1, n2, n3⟩ := (HG6.out).g.cells; obtain ⟨g0, g1, g2, g3⟩ := (HG6.out).g.frozen)
              | fail)
            all_goals
              refine NoPanic.normal ?_
              go_wp2
              go_roundg (wd.length - (i + 1))
              case measure => have := HLT.out; omega
              case rel => exact ⟨i + 1, A5, c5, HLT.out, Nat.le_refl _, by rw [wr_id (x := (i : Int) + 1) (by omega) (by have := HLT.out; have := HWL.out; omega)]; rfl, ⟨(HG6.out).set0 _⟩, ⟨blk_far HWB6.out (by have := HBW.out; show bw ≠ w.heap.size; omega) _⟩, ⟨Kd.R_far HR6.out (p := ⟨w.heap.size, 0, none⟩) (fun k hk he => by have h0 : k = w.heap.size := he; omega) _⟩, ⟨fun j hj => by
                by_cases e : j = i
                · rw [e, HS1.out]; exact HQ4.out
                · exact HOK.out j (by omega)⟩⟩
        · obtain rfl : i = wd.length := by omega
          have HALL := Aside0.mk (show wd.all okW = true from List.all_eq_true.2 fun x hx => by
            obtain ⟨j, hj, hjx⟩ := List.mem_iff_getElem.1 hx
            have h1 := HOK.out j hj
            rw [List.getD_eq_getElem?_getD, List.getElem?_eq_getElem hj, hjx] at h1
            exact h1)
          rw [List.take_length] at HR
          clear hi hgg hlt HOK HWB HV4 HWZ
          have HN12 := Aside0.mk (Nat.lt_of_lt_of_le (show 1 < 3 by decide) HL3.out)
          have hk := strs_cell (HG4.out).l HN12.out
          have HS1Z := Aside0.mk (HCS.out 1)
          generalize hs1 : L.getD 1 ByteArray.empty = s1 at *
          have HS1 := Aside0.mk hs1
          have HWO := Aside0.mk (wordsB_calls s1 sStates wr (by have := HS1Z.out; have := HSZ.out; omega) ((HM.out).below (HG4.out).g.hb))
          clear hs1
          go_wp2_with fail
          refine (HWO.out).mono ?_
          rintro E w4 ⟨hb, ⟨hne, rfl⟩ | ⟨hhd, o2, rfl, ho, hws⟩⟩
          · have HN := Aside0.mk (HV5.out hne)
            have HG5 := Aside0.mk ((HG4.out).below hb)
            unfold pbad
            go_wp2
            exact get_panic (getR_bad HSZ.out HN.out) (HG5.out).g _ rfl rfl
          · have HG5 := Aside0.mk ((HG4.out).below hb)
            have HR5 := Aside0.mk (Kd.R_below HR.out hb)
            have HWS2 := Aside0.mk hws
            have HO2 := Aside0.mk ho
            have HHD2 := Aside0.mk hhd
            have HBW2 := Aside0.mk (show w.heap.size + 2 ≤ wr.heap.size from by have := blk_lt (HG4.out).l; have := (HG4.out).hbl; omega)
            have HWZ2 := Aside0.mk (show ∀ i, ((chunks s1 32).getD i ByteArray.empty).size ≤ 65536 from fun i => by have := chunk_size s1 32 i; have := HS1Z.out; have := HSZ.out; omega)
            clear hb hws ho hhd hk HG4 HR HWO HN12
            generalize wr.heap.size = bw2 at *
            generalize hws0 : chunks s1 32 = ws2 at *
            have HWS20 := Aside0.mk hws0
            clear hws0
            by_cases h3 : (ws2.drop 1).length = 3
            · obtain ⟨p, x1, x2, x3, rfl⟩ : ∃ p x1 x2 x3, ws2 = [p, x1, x2, x3] := by
                rw [List.length_drop] at h3
                match ws2, h3 with
                | [p, x1, x2, x3], _ => exact ⟨p, x1, x2, x3, rfl⟩
              obtain rfl : o2 = 1 := by have := HO2.out; simp at this; exact this
              have z1 : w4.cell? ⟨bw2, 1, none⟩ = some (.string x1) := (blk_cell HWS2.out 1).trans rfl
              have z2 : w4.cell? ⟨bw2, 2, none⟩ = some (.string x2) := (blk_cell HWS2.out 2).trans rfl
              have z3 : w4.cell? ⟨bw2, 3, none⟩ = some (.string x3) := (blk_cell HWS2.out 3).trans rfl
              have HX1Z := Aside0.mk (HWZ2.out 1)
              have HX3Z := Aside0.mk (HWZ2.out 3)
              have HSEC := Aside0.mk (show (secOk [x1, x2, x3] = false → getV t = none) from HV6.out)
              have HCE := Aside0.mk (show ∀ b : Bool, (x2.toList == [115, 116, 97, 114, 116]) = b → decide (x2 = sStart) = b from fun b hb => by
                have e : sStart.toList = [115, 116, 97, 114, 116] := by rw [Lib.toList_data]; rfl
                cases b with
                | true => exact decide_eq_true (string_inj (by rw [e]; exact hb))
                | false => exact decide_eq_false (string_ne (by rw [e]; exact hb)))
              cases q5 : (x2.toList == [115, 116, 97, 114, 116]) with
              | false =>
                have HN := Aside0.mk (HSEC.out (by show (decide (x2 = sStart) && okW x1 && okW x3) = false; rw [HCE.out _ q5]; rfl))
                go_wp2
                exact get_panic (getR_bad HSZ.out HN.out) (HG5.out).g _ rfl rfl
              | true =>
                have HX2 := Aside0.mk (HCE.out _ q5)
                have HN1 := Aside0.mk (number_calls x1 w4 (by have : x1.size ≤ 65536 := HX1Z.out; omega))
                go_wp2_with fail
                refine (HN1.out).mono ?_
                rintro E w5 ⟨rfl, hb⟩
                have HG6 := Aside0.mk ((HG5.out).below hb)
                have HR6 := Aside0.mk (Kd.R_below HR5.out hb)
                have HWS6 := Aside0.mk (blk_below HWS2.out hb)
                clear hb HG5 HR5 HWS2 z1 z2 z3 HN1 q5
                cases q6 : okW x1 with
                | false =>
                  have HN := Aside0.mk (HSEC.out (by show (decide (x2 = sStart) && okW x1 && okW x3) = false; rw [q6, HX2.out]; rfl))
                  rw [show numE x1.data.toList = pbad by unfold numE; rw [show numOk x1.data.toList = false from q6]; rfl]
                  unfold pbad
                  go_wp2
                  exact get_panic (getR_bad HSZ.out HN.out) (HG6.out).g _ rfl rfl
                | true =>
                rw [show numE x1.data.toList = .returned (.int .i64 (valW x1)) by unfold numE; rw [show numOk x1.data.toList = true from q6]; rfl]
                have HX1 := Aside0.mk q6
                have HN3 := Aside0.mk (number_calls x3 w5 (by have : x3.size ≤ 65536 := HX3Z.out; omega))
                have z3 : w5.cell? ⟨bw2, 3, none⟩ = some (.string x3) := (blk_cell HWS6.out 3).trans rfl
                clear q6
                go_wp2_with fail
                refine (HN3.out).mono ?_
                rintro E w6 ⟨rfl, hb⟩
                have HG7 := Aside0.mk ((HG6.out).below hb)
                have HR7 := Aside0.mk (Kd.R_below HR6.out hb)
                clear hb HG6 HR6 HWS6 z3 HN3
                cases q7 : okW x3 with
                | false =>
                  have HN := Aside0.mk (HSEC.out (by show (decide (x2 = sStart) && okW x1 && okW x3) = false; rw [q7, HX1.out, HX2.out]; rfl))
                  rw [show numE x3.data.toList = pbad by unfold numE; rw [show numOk x3.data.toList = false from q7]; rfl]
                  unfold pbad
                  go_wp2
                  exact get_panic (getR_bad HSZ.out HN.out) (HG7.out).g _ rfl rfl
                | true =>
                rw [show numE x3.data.toList = .returned (.int .i64 (valW x3)) by unfold numE; rw [show numOk x3.data.toList = true from q7]; rfl]
                have HX3 := Aside0.mk q7
                clear q7
                obtain ⟨k0, k1, k2, k3⟩ := (HG7.out).g.cells
                obtain ⟨f0, f1, f2, f3⟩ := (HG7.out).g.frozen
                go_upto_region 17 with (fail)
                have HG8 := Aside0.mk ((HG7.out).set1 (.int .i64 (valW x3)))
                have HR8 := Aside0.mk (Kd.R_far HR7.out (p := ⟨w.heap.size, 1, none⟩) (fun k hk he => by have h0 : k = w.heap.size := he; omega) (.int .i64 (valW x3)))
                generalize w6.setCell ⟨w.heap.size, 1, none⟩ (.int .i64 (valW x3)) = w7 at *
                clear HG7 HR7 k0 k1 k2 k3 f0 f1 f2 f3 HX1Z HX3Z HSEC HCE HV6 HWZ2
                have HST := Aside0.mk (num_nonneg HX1.out)
                generalize hst : valW x1 = states at *
                have HSTE := Aside0.mk hst
                clear hst
                have HV := Aside0.mk (getV_main hLL HL3.out (HLEE.out.trans HLEM.out) HS0.out HWS0.out HHD.out HWD.out HALL.out HS1.out HWS20.out HHD2.out (of_decide_eq_true HX2.out) HX1.out HX3.out)
                rw [HSTE.out] at HV
                clear HV1 HV3 HV5 HLE HLEE HLEM HS0 HS0Z HHD HWS0 HALL HS1Z HS1 HHD2 HWS20 HX2 HX3 HO2 HBW HBW2 hLL
                obtain ⟨N, hN⟩ : ∃ N : Nat, (if states < 7 then states else 7) = (N : Int) := ⟨(if states < 7 then states else 7).toNat, by have := HST.out; split <;> omega⟩
                have HN7 := Aside0.mk (show N ≤ 7 ∧ N = (min states 7).toNat from by split at hN <;> omega)
                have hmk : ∀ W : World, (Instr.makeSlice 65 (.int .i64 (wd.length : Int)) (.int .i64 (wd.length : Int))).run Tryz.prog W = .ok (.slice (some ⟨W.heap.size, 0, none⟩) wd.length wd.length) (W.alloc (.cells (madeCells #[.slice none 0 0] wd.length) 66)) := fun W => run_make_row' 65 66 (.slice none 0 0) 24 Tryz.underlying65 Q.info66 rfl .i64 .i64 wd.length (by have := HWL.out; omega) (by have := HWL.out; omega) W
                have hmin : min states 7 = (N : Int) := by have := (HN7.out).2; have := HST.out; omega
                go_wp2
                clear hmin
                go_loopg [85] N (fun gg v85 wi => ∃ (j : Nat) (A2 : Option Addr) (c2 : Nat) (gs : List Nat) (u : Nat → Nat → Value), j ≤ N ∧ N - j ≤ gg ∧ v85 = .int .i64 j ∧ Aside0 (GL w wi (.slice A wd.length c) (.int .i64 (valW x3)) (.slice A2 j c2) bl L) ∧ Aside0 (Kd.R (Kd.int .i64) 3 wi w.heap.size (fun k => w.heap.size + 2 ≤ k) (.slice A wd.length c) (wd.map valW)) ∧ Aside0 (MM w.heap.size (w.heap.size + 2) wi (.slice A2 j c2) (List.replicate j (List.replicate wd.length [])) wd.length gs u))
                case atStart => exact ⟨0, none, 0, [], _, Nat.zero_le _, Nat.le_refl _, rfl, HG8, HR8, ⟨MM.start _ _ _ _⟩⟩
                case round =>
                  clear HG8 HR8
                  obtain ⟨j, A2, c2, gs, u, hj, hgg, rfl, HG9, HR9, HMM⟩ := hrel
                  by_cases hlt : j < N
                  · have hltz : (j : Int) < (N : Int) := by omega
                    have HLT := Aside0.mk hlt
                    go_upto_region 19 with (fail)
                    obtain ⟨k0, k1, k2, k3⟩ := (HG9.out).g.cells
                    have hb1 := below_drew (Below.refl wr.heap.size wr)
                    have hb2 := below_alloc hb1 (.cells (madeCells #[.slice none 0 0] wd.length) 66)
                    have hnew := blk_new wr.drew (.cells (madeCells #[.slice none 0 0] wd.length) 66)
                    have m0 := pw_cell_below hb2 k0
                    have m2 := pw_cell_below hb2 k2
                    have HGA := Aside0.mk ((HG9.out).below hb2)
                    have HRA := Aside0.mk (Kd.R_below HR9.out hb2)
                    have HMA := Aside0.mk ((HMM.out).below hb2)
                    have q0_ := pw_cell_below (below_alloc (Below.refl wr.heap.size wr) (.cells (madeCells #[.slice none 0 0] wd.length) 66)) k0
                    have q2_ := pw_cell_below (below_alloc (Below.refl wr.heap.size wr) (.cells (madeCells #[.slice none 0 0] wd.length) 66)) k2
                    have l0 := pw_cell_below (below_alloc (Below.refl (wr.alloc (.cells (madeCells #[.slice none 0 0] wd.length) 66)).heap.size (wr.alloc (.cells (madeCells #[.slice none 0 0] wd.length) 66))) (.cells #[.slice (some ⟨wr.heap.size, 0, none⟩) wd.length wd.length] 65)) q0_
                    have l2 := pw_cell_below (below_alloc (Below.refl (wr.alloc (.cells (madeCells #[.slice none 0 0] wd.length) 66)).heap.size (wr.alloc (.cells (madeCells #[.slice none 0 0] wd.length) 66))) (.cells #[.slice (some ⟨wr.heap.size, 0, none⟩) wd.length wd.length] 65)) q2_
                    have HNEW := Aside0.mk (show (wr.drew.alloc (.cells (madeCells #[.slice none 0 0] wd.length) 66)).heap[wr.heap.size]? = some (.cells (Array.replicate wd.length (.slice none 0 0)) 66 (0, 0)) from by rw [← made_rep]; exact hnew)
                    have HGSL := Aside0.mk (show gs.length = j by rw [(HMM.out).len]; simp)
                    have HGLT := Aside0.mk (show ∀ q, q < (List.replicate j (List.replicate wd.length ([] : List (List Nd)))).length → gs.getD q 0 ≠ wr.heap.size from fun q hq => by have := blk_lt ((HMM.out).rows q hq).2.1; omega)
                    have HB2 := Aside0.mk (show w.heap.size + 2 ≤ wr.heap.size from by have := blk_lt (HG9.out).l; have := (HG9.out).hbl; omega)
                    clear hb1 hb2 hnew
                    refine wp_region_noPanic ?_
                    go_region_law (first
                      | (refine Kd.R_append_step (kRow wd.length) (w0 := w) (W := wr.drew.alloc (.cells (madeCells #[.slice none 0 0] wd.length) 66)) w.heap.size (by simp [Region.wanted]) (.tmp 88) (.tmp 93) 23 65 (.slice none 0 0) 24 rfl Tryz.underlying23 Q.info65 rfl (show 0 < 1 by decide) (by decide) (.slice A2 j c2) gs wr.heap.size [.slice (some ⟨wr.heap.size, 0, none⟩) wd.length wd.length] (fun k => w.heap.size + 2 ≤ k) (fun _ => False) (by rfl) (by show Value.slice (some ⟨wr.heap.size + 1, 0, none⟩) 1 1 = _; simp) rfl (fun _ hk => hk.elim) (fun k hk => by have := blk_lt (HGA.out).l; have := (HGA.out).hbl; omega) (HMA.out).row (HGA.out).g.hb (HGA.out).g.hb.size (by rw [HGSL.out]; have := (HN7.out).1; have := HLT.out; omega) ?_; intro v5 w5 ho5 hb5 hg5 hat5; have HMP := Aside0.mk ((HMA.out).push wr.heap.size HNEW.out HB2.out HGLT.out ho5 hg5); (obtain ⟨A5, c5, e5⟩ := Kd.R_slice ho5); rw [List.length_append, HGSL.out, List.length_singleton] at e5; subst e5; have HGP := Aside0.mk ((HGA.out).app (HMA.out).row (by decide) hb5 hg5); have HRP := Aside0.mk (R_grown9 HRA.out (HMA.out).row (by decide) (fun _ h => by cases h) hg5); clear ho5 hb5 hg5 hat5; obtain ⟨n0, n1, n2, n3⟩ := (HGP.out).g.cells; obtain ⟨g0, g1, g2, g3⟩ := (HGP.out).g.frozen)
                      | fail)
                    all_goals
                      refine NoPanic.normal ?_
                      go_wp2
                      go_roundg (N - (j + 1))
                      case measure => have := HLT.out; omega
                      case rel => exact ⟨j + 1, A5, c5, gs ++ [wr.heap.size], _, HLT.out, Nat.le_refl _, rfl, ⟨(HGP.out).set2 _⟩, ⟨Kd.R_far HRP.out (p := ⟨w.heap.size, 2, none⟩) (fun k hk he => by have h0 : k = w.heap.size := he; omega) _⟩, ⟨by rw [List.replicate_succ']; exact (HMP.out).far (by omega) _⟩⟩
                  · obtain rfl : N = j := by omega
                    clear hlt hj hgg hmk
                    rw [← (HN7.out).2] at HV
                    have hl3 := HL3.out
                    obtain ⟨n, hn⟩ : ∃ n, L.length = n + 3 := ⟨L.length - 3, by omega⟩
                    have HNL := Aside0.mk hn
                    have HLN := Aside0.mk (show n ≤ 65536 from by have := HLS.out; omega)
                    go_upto_region 22 with (fail)
                    rw [hn]
                    have hz1 : wrap64 ((n : Int) + 3 - 1) = (n : Int) + 2 := by rw [wr_id (by omega) (by have := HLN.out; omega)]; omega
                    have hz2 : (0 : Int) ≤ (n : Int) + 2 ∧ (n : Int) + 2 ≤ (n : Int) + 3 := by omega
                    have hz3 : max ((n : Int) + 2) 0 = (n : Int) + 2 := by omega
                    have hz4 : (2 : Int) ≤ (n : Int) + 2 := by omega
                    have hz5 : ((n : Int) + 2).toNat = n + 2 := by omega
                    go_wp2
                    have HV2 := Aside0.mk (show getV t = (gstep states wd.length ((L.drop 2).take n) (-1) (List.replicate N (List.replicate wd.length []))).map fun M => (wd.map valW, valW x3, M) from by have h0 := HV.out; rw [HNL.out] at h0; exact h0)
                    refine loop26 t w L wd n N bl _ A c A2 c2 (valW x3) states _ _ (List.replicate N (List.replicate wd.length [])) gs u _ _ _ _ _ _ _ _ _ _ _ _ _ _ _ _ _ _ _ _ _ _ _ _ _ _ _ _ _ _ _ _ _ _ _ _ _ _ _ _ _ _ _ _ _ _ _ _ _ _ _ _ _ _ _ _ _ _ _ _ _ _ _ _ _ _ _ _ _ _ _ _ _ _ _ _ _ _ _ _ _ _ _ _ _ _ _ _ _ _ _ _ _ _ _ _ _ _ _ _ _ _ _ _ _ _ _ _ _ _ _ _ _ _ _ _ _ _ _ _ _ _ _ _ _ _ _ _ _ _ _ _ _ _ _ _ _ _ _ _ _ _ _ _ _ _ _ _ _ _ _ _ _ _ _ _ _ _ _ _ _ _ _ _ _ _ _ _ _ _ _ _ _ _ _ _ _ _ _ _ _ _ _ _ _ HSZ HM HCS HWL HNL HLN HN7 HST ⟨List.length_replicate⟩ ⟨fun a b => by simp [List.getD_eq_getElem?_getD, List.getElem?_replicate]; split <;> simp [List.getElem?_replicate]; split <;> simp⟩ HG9 HR9 HMM HV2 ?_
                    clear HG9 HR9 HMM HV2 HV hz1 hz2 hz3 hz4 hz5
                    refine ⟨?_⟩
                    intro u9 u11 u12 u13 u14 u15 u16 u17 u18 u19 u20 u103 u104 u105 u106 u107 u108 u109 u110 u111 u112 u113 u114 u115 u116 u117 u118 u119 u120 u121 u122 u123 u124 u125 u126 u127 u128 u129 u130 u131 u132 u133 u134 u135 u136 u137 u138 u139 u140 u141 u142 u143 u144 u145 u146 u147 u148 u149 u150 u151 u152 u153 u154 u155 u156 u157 u158 u159 u160 u161 u162 u163 u164 u165 u166 u167 u168 u169 u170 u171 u172 u173 u174 u175 u176 u177 u178 u179 u180 u181 u182 u183 u184 u185 u186 W M gs uu hG hR hM hL hVV
                    have HG := Aside0.mk hG
                    have hrd := Kd.R_reads' hR
                    obtain ⟨A2', c2', e, hle, hCM⟩ := hM.reads (by have := HWL.out; omega)
                    injection e with e1 e2 e3
                    subst e1 e3
                    have HCK := Aside0.mk (acheckG_calls (wd.map valW) M (valW x3) A c A2 c2 W hrd.2.2 (by rw [List.length_map]; exact hrd.2.1) hCM)
                    have HR := Aside0.mk hR
                    have HMM := Aside0.mk hM
                    have HL := Aside0.mk hL
                    have HVV := Aside0.mk hVV
                    rw [List.length_map, hL] at HCK
                    obtain ⟨k0, k1, k2, k3⟩ := hG.g.cells
                    clear e2 hG hR hM hrd hle hCM hL hVV
                    cases hq : auB (wd.map valW) (valW x3) M with
                    | false =>
                      rw [chk_false hq] at HCK
                      have HRR := Aside0.mk (show getR t = (10, [], 0, []) by unfold getR; rw [if_neg (by have := HSZ.out; omega), HVV.out]; simp only; rw [if_neg (by rw [chk_false hq]; decide)])
                      clear hq
                      go_wp2_with fail
                      refine (HCK.out).mono ?_
                      rintro E W2 ⟨rfl, hb⟩
                      have HG2 := Aside0.mk ((HG.out).below hb)
                      clear hb k0 k1 k2 k3
                      obtain ⟨k0, k1, k2, k3⟩ := (HG2.out).g.cells
                      obtain ⟨f0, f1, f2, f3⟩ := (HG2.out).g.frozen
                      have HQ := Aside0.mk ((((HG2.out).g.set0 (.slice none 0 0)).set1 (.int .i64 0)).set2 (.slice none 0 0))
                      go_wp2
                      exact get_done (A1 := none) (A2 := none) (c1 := 0) (c2 := 0) (rk := []) (M := []) HRR.out ((HQ.out).hb.setCell (p := ⟨w.heap.size + 1, 0, none⟩) (Nat.le_succ _) _) (blk_far (HQ.out).ha (by show w.heap.size ≠ w.heap.size + 1; omega) _) (blk_set (HQ.out).he 0 _) ⟨rfl, by simp, fun h => absurd h (by simp)⟩ (Nat.le_refl _) ⟨rfl, by simp, fun h => absurd h (by simp)⟩ (Nat.le_refl _) _ rfl rfl
                    | true =>
                      rw [chk_true hq] at HCK
                      have HRR := Aside0.mk (show getR t = (0, wd.map valW, valW x3, M) by unfold getR; rw [if_neg (by have := HSZ.out; omega), HVV.out]; simp only; rw [if_pos (chk_true hq)])
                      clear hq
                      go_wp2_with fail
                      refine (HCK.out).mono ?_
                      rintro E W2 ⟨rfl, hb⟩
                      have HG2 := Aside0.mk ((HG.out).below hb)
                      have HR2 := Aside0.mk (Kd.R_below HR.out hb)
                      have HM2 := Aside0.mk ((HMM.out).below hb)
                      clear hb k0 k1 k2 k3
                      obtain ⟨k0, k1, k2, k3⟩ := (HG2.out).g.cells
                      obtain ⟨f0, f1, f2, f3⟩ := (HG2.out).g.frozen
                      have HQ := Aside0.mk ((((HG2.out).g.set0 (.slice A wd.length c)).set1 (.int .i64 (valW x3))).set2 (.slice A2 N c2))
                      have HR3 := Aside0.mk (fun (a : Nat) (ha : a < w.heap.size + 2) (o : Nat) (y : Value) (W3 : World) (h3 : Kd.R (Kd.int .i64) 3 W3 w.heap.size (fun k => w.heap.size + 2 ≤ k) (.slice A wd.length c) (wd.map valW)) => Kd.R_far h3 (p := ⟨a, o, none⟩) (fun k hk he => by have h0 : k = a := he; omega) y)
                      have HM3 := Aside0.mk (fun (a : Nat) (ha : a < w.heap.size + 2) (o : Nat) (y : Value) (W3 : World) (h3 : MM w.heap.size (w.heap.size + 2) W3 (.slice A2 N c2) M wd.length gs uu) => h3.far (a := a) (j := o) ha y)
                      go_wp2
                      have hr := Kd.R_reads' (HR3.out (w.heap.size + 1) (by omega) 0 (.int .i64 0) _ (HR3.out w.heap.size (by omega) 2 (.slice A2 N c2) _ (HR3.out w.heap.size (by omega) 1 (.int .i64 (valW x3)) _ (HR3.out w.heap.size (by omega) 0 (.slice A wd.length c) _ HR2.out))))
                      have hm := HM3.out (w.heap.size + 1) (by omega) 0 (.int .i64 0) _ (HM3.out w.heap.size (by omega) 2 (.slice A2 N c2) _ (HM3.out w.heap.size (by omega) 1 (.int .i64 (valW x3)) _ (HM3.out w.heap.size (by omega) 0 (.slice A wd.length c) _ HM2.out)))
                      obtain ⟨A2', c2', e, hle, hCM⟩ := hm.reads (by have := HWL.out; omega)
                      injection e with e1 e2 e3
                      subst e1 e3
                      exact get_done (A1 := A) (A2 := A2) (c1 := c) (c2 := c2) (rk := wd.map valW) (M := M) HRR.out ((HQ.out).hb.setCell (p := ⟨w.heap.size + 1, 0, none⟩) (Nat.le_succ _) _) (by rw [List.length_map, HL.out]; exact blk_far (HQ.out).ha (by show w.heap.size ≠ w.heap.size + 1; omega) _) (blk_set (HQ.out).he 0 _) hr.2.2 (by rw [List.length_map]; exact hr.2.1) hCM hle _ rfl rfl
            · have h3z : ¬ (((ws2.drop 1).length : Int) = 3) := by omega
              have HN := Aside0.mk (HV6.out (by
                unfold secOk
                split
                · rename_i h; rw [h] at h3; exact absurd rfl h3
                · rfl))
              generalize (ws2.drop 1).length = nn at *
              go_wp2
              exact get_panic (getR_bad HSZ.out HN.out) (HG5.out).g _ rfl rfl
end Go.Proofs.YtbmcigakiibncaaGreatDoor.H
namespace Go.Proofs.YtbmcigakiibncaaGreatDoor.H
open Go.RowKit Go.Proofs.YtbmcigakiibncaaGreatDoorW.PrintWords Go.Proofs.YtbmcigakiibncaaGreatDoorW.PrintLast Go.Proofs.YtbmcigakiibncaaGreatDoorW.PrintMore
open Go.Proofs.YtbmcigakiibncaaGreatDoor.Q (S28 k28)
set_option linter.unusedVariables false
set_option linter.unusedSimpArgs false
def exT : ByteArray := ⟨#[114, 97, 110, 107, 115, 32, 50, 32, 49, 32, 48, 10, 115, 116, 97, 116, 101, 115, 32, 49, 32, 115, 116, 97, 114, 116, 32, 48, 10, 48, 32, 48, 58, 32, 48, 46, 48, 32, 49, 46, 48, 10, 48, 32, 50, 58, 10]⟩
def rk0 : List Int := [2, 1, 0]
def M0 : Mv := [[[[⟨0, 0⟩, ⟨1, 0⟩]], [], [[]]]]
def D0 : Mv := [[[[⟨0, 0⟩], [⟨1, 0⟩]], [[]], []]]
def c0T : S28 := ⟨2, []⟩
def b0T : S28 := ⟨1, [⟨2, []⟩]⟩
def exD : List UInt8 := [114, 97, 110, 107, 115, 32, 50, 32, 49, 32, 48, 10, 115, 116, 97, 116, 101, 115, 32, 49, 32, 115, 116, 97, 114, 116, 32, 48, 10, 48, 32, 48, 58, 32, 48, 46, 48, 10, 48, 32, 48, 58, 32, 49, 46, 48, 10, 48, 32, 49, 58, 10]
theorem ex_get : getR exT = (0, rk0, 0, M0) := by kernel_rfl
theorem ex_dual : dualR rk0 0 M0 = (0, rk0, 0, D0) := by kernel_rfl
theorem ex_put : putR rk0 0 D0 = (exD, 0) := by kernel_rfl
theorem ex_is1 : isV rk0 0 M0 0 c0T = true ∧ stErr rk0 0 M0 0 c0T = 0 := ⟨by kernel_rfl, by kernel_rfl⟩
theorem ex_is2 : isV rk0 0 M0 0 b0T = false ∧ stErr rk0 0 M0 0 b0T = 0 := ⟨by kernel_rfl, by kernel_rfl⟩
theorem ex_is3 : isV rk0 0 D0 1 b0T = true ∧ stErr rk0 0 D0 1 b0T = 0 := ⟨by kernel_rfl, by kernel_rfl⟩
theorem get0_calls (w : World) (hm : MX w) : Calls Tryz.prog 26 #[.string exT] w fun E w' => ∃ A1 c1 A2 c2, E = .returned (.tuple #[.agg #[.slice A1 rk0.length c1, .int .i64 0, .slice A2 M0.length c2], .int .i64 0]) ∧ Kd.C (Kd.int .i64) w' A1 rk0.length rk0 ∧ rk0.length ≤ c1 ∧ Kd.C kA3 w' A2 M0.length M0 ∧ Below w.heap.size w w' := by
  refine (get_calls exT w hm).mono ?_
  intro E w' h
  unfold GetE at h
  rw [ex_get] at h
  obtain ⟨A1, c1, A2, c2, rfl, h1, h2, h3, h4, h5⟩ := h
  exact ⟨A1, c1, A2, c2, rfl, h1, h2, h3, h5⟩
theorem dual0_calls (A1 : Option Addr) (c1 : Nat) (A2 : Option Addr) (c2 : Nat) (w : World) (hr : Kd.C (Kd.int .i64) w A1 rk0.length rk0) (hc1 : rk0.length ≤ c1) (hM : Kd.C kA3 w A2 M0.length M0) (ht : TabD w) :
    Calls Tryz.prog 21 #[.agg #[.slice A1 rk0.length c1, .int .i64 0, .slice A2 M0.length c2]] w fun E w' => ∃ A1 c1 A2 c2, E = .returned (.tuple #[.agg #[.slice A1 rk0.length c1, .int .i64 0, .slice A2 D0.length c2], .int .i64 0]) ∧ Kd.C (Kd.int .i64) w' A1 rk0.length rk0 ∧ rk0.length ≤ c1 ∧ Kd.C kA3 w' A2 D0.length D0 ∧ Below w.heap.size w w' := by
  refine (adual_calls rk0 M0 0 A1 c1 A2 c2 w hr hc1 hM ht).mono ?_
  intro E w' h
  unfold DualRE at h
  rw [ex_dual] at h
  obtain ⟨v1, v2, rfl, h1, h2, h3⟩ := h
  obtain ⟨A3, c3, rfl⟩ := Kd.R_slice h1
  obtain ⟨A4, c4, rfl⟩ := Kd.R_slice h2
  have r1 := Kd.R_reads' h1
  have r2 := Kd.R_reads' h2
  exact ⟨A3, c3, A4, c4, rfl, r1.2.2, r1.2.1, r2.2.2, h3⟩
theorem C_nilT (w : World) : Kd.C k28 w none 0 [] := ⟨rfl, by simp, fun h => absurd h (by simp)⟩
theorem C_oneT {w : World} {g : Nat} {f0 : Int} (h : w.heap[g]? = some (.cells #[.int .i64 f0, .slice none 0 0] 28 (0, 0))) : Kd.C k28 w (some ⟨g, 0, none⟩) 1 [⟨f0, []⟩] := by
  refine ⟨rfl, by simp, fun _ => ⟨_, rfl, fun j p hj => ?_⟩⟩
  have hj0 : j = 0 := by
    have := (List.getElem?_eq_some_iff.1 hj).1
    simpa using this
  subst hj0
  obtain rfl : (⟨f0, []⟩ : S28) = p := by simpa using hj
  refine ⟨[.int .i64 f0, .slice none 0 0], rfl, Q.k28_mk w ⟨f0, []⟩ (A1 := none) (c1 := 0) (Nat.le_refl _) (C_nilT w), fun i u hu => ?_⟩
  rw [show (Addr.add ⟨g, 0, none⟩ (0 * k28.sz + i)) = ⟨g, i, none⟩ by rw [Nat.zero_mul, Nat.zero_add]; simp [Addr.add]; exact fun e => e.symm, blk_cell h i]
  match i, hu with
  | 0, hu => simpa using hu
  | 1, hu => simpa using hu
  | i + 2, hu => simp at hu
theorem box3_of {W : World} {b : Nat} {x y z : Value} (h : W.heap[b]? = some (.cells #[x, y, z] 25 (0, 0))) : W.cell? ⟨b, 0, none⟩ = some x ∧ W.cell? ⟨b, 1, none⟩ = some y ∧ W.cell? ⟨b, 2, none⟩ = some z := ⟨(blk_cell h 0).trans rfl, (blk_cell h 1).trans rfl, (blk_cell h 2).trans rfl⟩
theorem box2_of {W : World} {b : Nat} {x y : Value} (h : W.heap[b]? = some (.cells #[x, y] 28 (0, 0))) : W.cell? ⟨b, 0, none⟩ = some x ∧ W.cell? ⟨b, 1, none⟩ = some y := ⟨(blk_cell h 0).trans rfl, (blk_cell h 1).trans rfl⟩
theorem exD_list : (⟨exD.toArray⟩ : ByteArray).toList = exD := by rw [Lib.toList_data]
theorem is1_calls (A1 : Option Addr) (c1 : Nat) (A2 : Option Addr) (c2 : Nat) (w : World) (hr : Kd.C (Kd.int .i64) w A1 rk0.length rk0) (hc1 : rk0.length ≤ c1) (hM : Kd.C kA3 w A2 M0.length M0) (hT : Tab w) :
    Calls Tryz.prog 15 #[.agg #[.slice A1 rk0.length c1, .int .i64 0, .slice A2 M0.length c2], .int .i64 0, .agg #[.int .i64 2, .slice none 0 0]] w fun E w' => E = .returned (.tuple #[.bool true, .int .i64 0]) ∧ Below w.heap.size w w' := by
  have h := aisG_calls rk0 M0 0 0 c0T A1 c1 A2 c2 none 0 w hr hc1 hM (C_nilT w) (Nat.le_refl _) hT
  rw [ex_is1.1, ex_is1.2] at h
  exact h
theorem is2_calls (A1 : Option Addr) (c1 : Nat) (A2 : Option Addr) (c2 : Nat) (g : Nat) (w : World) (hr : Kd.C (Kd.int .i64) w A1 rk0.length rk0) (hc1 : rk0.length ≤ c1) (hM : Kd.C kA3 w A2 M0.length M0) (hg : w.heap[g]? = some (.cells #[.int .i64 2, .slice none 0 0] 28 (0, 0))) (hT : Tab w) :
    Calls Tryz.prog 15 #[.agg #[.slice A1 rk0.length c1, .int .i64 0, .slice A2 M0.length c2], .int .i64 0, .agg #[.int .i64 1, .slice (some ⟨g, 0, none⟩) 1 1]] w fun E w' => E = .returned (.tuple #[.bool false, .int .i64 0]) ∧ Below w.heap.size w w' := by
  have h := aisG_calls rk0 M0 0 0 b0T A1 c1 A2 c2 (some ⟨g, 0, none⟩) 1 w hr hc1 hM (C_oneT hg) (Nat.le_refl _) hT
  rw [ex_is2.1, ex_is2.2] at h
  exact h
theorem is3_calls (A1 : Option Addr) (c1 : Nat) (A2 : Option Addr) (c2 : Nat) (g : Nat) (w : World) (hr : Kd.C (Kd.int .i64) w A1 rk0.length rk0) (hc1 : rk0.length ≤ c1) (hM : Kd.C kA3 w A2 D0.length D0) (hg : w.heap[g]? = some (.cells #[.int .i64 2, .slice none 0 0] 28 (0, 0))) (hT : Tab w) :
    Calls Tryz.prog 15 #[.agg #[.slice A1 rk0.length c1, .int .i64 0, .slice A2 D0.length c2], .int .i64 1, .agg #[.int .i64 1, .slice (some ⟨g, 0, none⟩) 1 1]] w fun E w' => E = .returned (.tuple #[.bool true, .int .i64 0]) ∧ Below w.heap.size w w' := by
  have h := aisG_calls rk0 D0 0 1 b0T A1 c1 A2 c2 (some ⟨g, 0, none⟩) 1 w hr hc1 hM (C_oneT hg) (Nat.le_refl _) hT
  rw [ex_is3.1, ex_is3.2] at h
  exact h
theorem put0_calls (A1 : Option Addr) (c1 : Nat) (A2 : Option Addr) (c2 : Nat) (w : World) (hr : Kd.C (Kd.int .i64) w A1 rk0.length rk0) (hc1 : rk0.length ≤ c1) (hM : Kd.C kA3 w A2 D0.length D0) :
    Calls Tryz.prog 24 #[.agg #[.slice A1 rk0.length c1, .int .i64 0, .slice A2 D0.length c2]] w fun E w' => E = .returned (.tuple #[.string ⟨exD.toArray⟩, .int .i64 0]) ∧ Below w.heap.size w w' := by
  refine (put_calls rk0 D0 0 A1 c1 A2 c2 w hr hc1 hM).mono ?_
  intro E w' h
  unfold PutE at h
  rw [ex_put] at h
  exact h
set_option maxHeartbeats 16000000 in
set_option maxRecDepth 100000 in
theorem alive_calls (w : World) (hm : MX w) (ht : TabD w) : Calls Tryz.prog 18 #[] w fun E w' => E = .returned (.bool true) ∧ Below w.heap.size w w' := by
  have HG := Aside0.mk (get0_calls w hm)
  have HT := Aside0.mk ht
  unfold exT at HG
  clear hm ht
  go_enter Tryz.func18, Tryz.ntmps18
  go_wp2_with fail
  refine (HG.out).mono ?_
  rintro E W1 ⟨A1, c1, A2, c2, rfl, hr1, hc1, hM1, hb1⟩
  have HB1 := Aside0.mk hb1
  have HR1 := Aside0.mk hr1
  have HC1 := Aside0.mk hc1
  have HM1 := Aside0.mk hM1
  have hba := below_alloc (Below.refl W1.heap.size W1) (.cells #[.slice A1 rk0.length c1, .int .i64 0, .slice A2 M0.length c2] 25)
  have HX1 := Aside0.mk (blk_new W1 (.cells #[.slice A1 rk0.length c1, .int .i64 0, .slice A2 M0.length c2] 25))
  have HB2 := Aside0.mk (below_then hb1 hb1.size hba)
  have HR2 := Aside0.mk (Kd.C_below hr1 hba)
  have HM2 := Aside0.mk (Kd.C_below hM1 hba)
  clear hr1 hc1 hM1 hb1 hba HG HR1 HM1
  go_upto_region 2 with (fail)
  generalize W1.alloc (.cells #[.slice A1 rk0.length c1, .int .i64 0, .slice A2 M0.length c2] 25) = W2 at *
  generalize W1.heap.size = b1 at *
  obtain ⟨k0, k1, k2⟩ := box3_of HX1.out
  have HDU := Aside0.mk (dual0_calls A1 c1 A2 c2 W2 HR2.out HC1.out HM2.out ((HT.out).below HB2.out))
  go_wp2_with fail
  refine (HDU.out).mono ?_
  rintro E W3 ⟨A3, c3, A4, c4, rfl, hr3, hc3, hM3, hb3⟩
  have hba := below_alloc (Below.refl W3.heap.size W3) (.cells #[.slice A3 rk0.length c3, .int .i64 0, .slice A4 D0.length c4] 25)
  have hb4 := below_then hb3 hb3.size hba
  have HB4 := Aside0.mk (below_then HB2.out (HB2.out).size hb4)
  have HX1' := Aside0.mk (blk_below HX1.out hb4)
  have HR4 := Aside0.mk (Kd.C_below HR2.out hb4)
  have HM4 := Aside0.mk (Kd.C_below HM2.out hb4)
  have HX3 := Aside0.mk (blk_new W3 (.cells #[.slice A3 rk0.length c3, .int .i64 0, .slice A4 D0.length c4] 25))
  have HC3 := Aside0.mk hc3
  have HS4 := Aside0.mk (Kd.C_below hr3 hba)
  have HN4 := Aside0.mk (Kd.C_below hM3 hba)
  clear hr3 hc3 hM3 hb3 hba hb4 k0 k1 k2 HDU HX1 HR2 HM2 HB2
  go_upto_region 3 with (fail)
  generalize W3.alloc (.cells #[.slice A3 rk0.length c3, .int .i64 0, .slice A4 D0.length c4] 25) = W4 at *
  generalize W3.heap.size = b3 at *
  have hba := below_alloc (below_alloc (below_alloc (Below.refl W4.heap.size W4) (.cells #[.int .i64 2, .slice none 0 0] 28)) (.cells #[.int .i64 2, .slice none 0 0] 28)) (.cells #[.int .i64 1, .slice (some ⟨W4.heap.size + 1, 0, none⟩) 1 1] 28)
  have h5 := blk_alloc (blk_alloc (blk_new W4 (.cells #[.int .i64 2, .slice none 0 0] 28)) (.cells #[.int .i64 2, .slice none 0 0] 28)) (.cells #[.int .i64 1, .slice (some ⟨W4.heap.size + 1, 0, none⟩) 1 1] 28)
  have h6 := blk_alloc (blk_at2 W4 (.cells #[.int .i64 2, .slice none 0 0] 28) (.cells #[.int .i64 2, .slice none 0 0] 28)) (.cells #[.int .i64 1, .slice (some ⟨W4.heap.size + 1, 0, none⟩) 1 1] 28)
  have h7 := blk_new ((W4.alloc (.cells #[.int .i64 2, .slice none 0 0] 28)).alloc (.cells #[.int .i64 2, .slice none 0 0] 28)) (.cells #[.int .i64 1, .slice (some ⟨W4.heap.size + 1, 0, none⟩) 1 1] 28)
  have k5 := box2_of (blk_new W4 (.cells #[.int .i64 2, .slice none 0 0] 28))
  obtain ⟨k50, k51⟩ := k5
  have HB5 := Aside0.mk (below_then HB4.out (HB4.out).size hba)
  have HX5 := Aside0.mk (blk_below HX1'.out hba)
  have HY5 := Aside0.mk (blk_below HX3.out hba)
  have HR5 := Aside0.mk (Kd.C_below HR4.out hba)
  have HM5 := Aside0.mk (Kd.C_below HM4.out hba)
  have HS5 := Aside0.mk (Kd.C_below HS4.out hba)
  have HN5 := Aside0.mk (Kd.C_below HN4.out hba)
  have HT5 := Aside0.mk h5
  have HT6 := Aside0.mk h6
  rw [show ((W4.alloc (.cells #[.int .i64 2, .slice none 0 0] 28)).alloc (.cells #[.int .i64 2, .slice none 0 0] 28)).heap.size = W4.heap.size + 1 + 1 by simp] at h7
  have HT7 := Aside0.mk h7
  clear hba h5 h6 h7
  go_upto_region 5 with (fail)
  clear k50 k51
  generalize (((W4.alloc (.cells #[.int .i64 2, .slice none 0 0] 28)).alloc (.cells #[.int .i64 2, .slice none 0 0] 28)).alloc (.cells #[.int .i64 1, .slice (some ⟨W4.heap.size + 1, 0, none⟩) 1 1] 28)) = W5 at *
  generalize W4.heap.size = g at *
  have HI1 := Aside0.mk (fun (W : World) (hb : Below W5.heap.size W5 W) => is1_calls A1 c1 A2 c2 W (Kd.C_below HR5.out hb) HC1.out (Kd.C_below HM5.out hb) ((HT.out).tab.below (below_then HB5.out (HB5.out).size hb)))
  have HI2 := Aside0.mk (fun (W : World) (hb : Below W5.heap.size W5 W) => is2_calls A1 c1 A2 c2 (g + 1) W (Kd.C_below HR5.out hb) HC1.out (Kd.C_below HM5.out hb) (blk_below HT6.out hb) ((HT.out).tab.below (below_then HB5.out (HB5.out).size hb)))
  have HI3 := Aside0.mk (fun (W : World) (hb : Below W5.heap.size W5 W) => is3_calls A3 c3 A4 c4 (g + 1) W (Kd.C_below HS5.out hb) HC3.out (Kd.C_below HN5.out hb) (blk_below HT6.out hb) ((HT.out).tab.below (below_then HB5.out (HB5.out).size hb)))
  have HPU := Aside0.mk (fun (W : World) (hb : Below W5.heap.size W5 W) => put0_calls A3 c3 A4 c4 W (Kd.C_below HS5.out hb) HC3.out (Kd.C_below HN5.out hb))
  obtain ⟨k10, k11, k12⟩ := box3_of HX5.out
  obtain ⟨k50, k51⟩ := box2_of HT5.out
  go_wp2_with fail
  refine (HI1.out _ (Below.refl _ _)).mono ?_
  rintro E W6 ⟨rfl, hb6⟩
  have HB6 := Aside0.mk hb6
  clear k10 k11 k12 k50 k51 hb6
  obtain ⟨k10, k11, k12⟩ := box3_of (blk_below HX5.out HB6.out)
  obtain ⟨k60, k61⟩ := box2_of (blk_below HT7.out HB6.out)
  go_wp2_with fail
  refine (HI2.out _ HB6.out).mono ?_
  rintro E W7 ⟨rfl, hb7⟩
  have HB7 := Aside0.mk (below_then HB6.out (HB6.out).size hb7)
  clear k10 k11 k12 k60 k61 hb7
  obtain ⟨k10, k11, k12⟩ := box3_of (blk_below HY5.out HB7.out)
  obtain ⟨k60, k61⟩ := box2_of (blk_below HT7.out HB7.out)
  go_wp2_with fail
  refine (HI3.out _ HB7.out).mono ?_
  rintro E W8 ⟨rfl, hb8⟩
  have HB8 := Aside0.mk (below_then HB7.out (HB7.out).size hb8)
  clear k10 k11 k12 k60 k61 hb8
  obtain ⟨k10, k11, k12⟩ := box3_of (blk_below HY5.out HB8.out)
  go_wp2_with fail
  refine (HPU.out _ HB8.out).mono ?_
  rintro E W9 ⟨rfl, hb9⟩
  have HB9 := Aside0.mk (below_then HB5.out (HB5.out).size (below_then HB8.out (HB8.out).size hb9))
  have hex := exD_list
  unfold exD at hex ⊢
  clear k10 k11 k12 hb9
  go_wp2
  go_ret
  exact ⟨rfl, HB9.out⟩
end Go.Proofs.YtbmcigakiibncaaGreatDoor.H
namespace Go.Proofs.YtbmcigakiibncaaGreatDoor.H
open Go.RowKit Go.Proofs.YtbmcigakiibncaaGreatDoorW.PrintWords Go.Proofs.YtbmcigakiibncaaGreatDoorW.PrintLast Go.Proofs.YtbmcigakiibncaaGreatDoorW.PrintMore
set_option linter.unusedVariables false
set_option linter.unusedSimpArgs false
structure TX2 (w : World) (x y z x' y' z' : Value) (W : World) : Prop where
  hb : Below w.heap.size w W
  box : W.heap[w.heap.size]? = some (.cells #[x, y, z] 25 (0, 0))
  box' : W.heap[w.heap.size + 1]? = some (.cells #[x', y', z'] 25 (0, 0))
theorem TX2.below {w W W1 : World} {x y z x' y' z' : Value} (h : TX2 w x y z x' y' z' W) (hb : Below W.heap.size W W1) : TX2 w x y z x' y' z' W1 :=
  ⟨below_then h.hb h.hb.size hb, blk_below h.box hb, blk_below h.box' hb⟩
theorem TX2.start (w : World) (x y z x' y' z' : Value) : TX2 w x y z x' y' z' ((w.alloc (.cells #[x, y, z] 25)).alloc (.cells #[x', y', z'] 25)) :=
  ⟨below_alloc (below_alloc (Below.refl w.heap.size w) _) _, blk_alloc (blk_new w _) _, blk_at2 w _ _⟩
end Go.Proofs.YtbmcigakiibncaaGreatDoor.H
namespace Go.Proofs.YtbmcigakiibncaaGreatDoor.H
open Go.RowKit Go.Proofs.YtbmcigakiibncaaGreatDoorW.PrintWords Go.Proofs.YtbmcigakiibncaaGreatDoorW.PrintLast Go.Proofs.YtbmcigakiibncaaGreatDoorW.PrintMore
set_option linter.unusedVariables false
set_option linter.unusedSimpArgs false
theorem sameRanks_calls (A : Option Addr) (c : Nat) (a : List Int) (B : Option Addr) (d : Nat) (b : List Int) (w : World) (hA : Kd.C (Kd.int .i64) w A a.length a) (hc : a.length ≤ c) (hB : Kd.C (Kd.int .i64) w B b.length b) (hd : b.length ≤ d) :
    Calls Tryz.prog 67 #[.slice A a.length c, .slice B b.length d] w fun e w' => e = .returned (.bool (eqI a b)) ∧ Below w.heap.size w w' := by
  obtain ⟨k, hk⟩ := (sameRanks_ev a b hA.2.1).rounds
  exact (Q.virgationref09_SameRanks.calls k A c a B d b _ w hA hc hB hd hk).mono fun e w' h => ⟨h.1, by first | exact h.2 | exact h.2.below⟩
theorem eqMoves_calls (A : Option Addr) (c : Nat) (a : List (List Nd)) (B : Option Addr) (d : Nat) (b : List (List Nd)) (w : World) (hA : Kd.C kA1 w A a.length a) (hc : a.length ≤ c) (hB : Kd.C kA1 w B b.length b) (hd : b.length ≤ d) :
    Calls Tryz.prog 68 #[.slice A a.length c, .slice B b.length d] w fun e w' => e = .returned (.bool (eq2 a b)) ∧ Below w.heap.size w w' := by
  obtain ⟨k, hk⟩ := (eqMoves_ev a b hA.2.1 (fun x hx => by obtain ⟨A1, h1⟩ := C_kids hA hx; exact h1.2.1)).rounds
  exact (Q.virgationref09_EqualMoves.calls k A c a B d b _ w hA hc hB hd hk).mono fun e w' h => ⟨h.1, by first | exact h.2 | exact h.2.below⟩
set_option maxHeartbeats 16000000 in
set_option maxRecDepth 100000 in
theorem rsame_calls (rk : List Int) (M : Mv) (st : Int) (A1 : Option Addr) (c1 : Nat) (A2 : Option Addr) (c2 : Nat) (rk' : List Int) (M' : Mv) (st' : Int) (B1 : Option Addr) (d1 : Nat) (B2 : Option Addr) (d2 : Nat) (w : World)
    (hr : Kd.C (Kd.int .i64) w A1 rk.length rk) (hc1 : rk.length ≤ c1) (hM : Kd.C kA3 w A2 M.length M) (hc2 : M.length ≤ c2)
    (hr' : Kd.C (Kd.int .i64) w B1 rk'.length rk') (hd1 : rk'.length ≤ d1) (hM' : Kd.C kA3 w B2 M'.length M') (hd2 : M'.length ≤ d2) :
    Calls Tryz.prog 28 #[.agg #[.slice A1 rk.length c1, .int .i64 st, .slice A2 M.length c2], .agg #[.slice B1 rk'.length d1, .int .i64 st', .slice B2 M'.length d2]] w fun e w' => e = .returned (.bool (sameB rk st M rk' st' M')) ∧ Below w.heap.size w w' := by
  have HC1 := Aside0.mk fun W (hW : Below w.heap.size w W) => isA_calls rk M st A1 c1 A2 c2 W (Kd.C_below hr hW) hc1 (Kd.C_below hM hW) hc2
  have HC2 := Aside0.mk fun W (hW : Below w.heap.size w W) => isA_calls rk' M' st' B1 d1 B2 d2 W (Kd.C_below hr' hW) hd1 (Kd.C_below hM' hW) hd2
  have HE := Aside0.mk fun W (hW : Below w.heap.size w W) => sameRanks_calls A1 c1 rk B1 d1 rk' W (Kd.C_below hr hW) hc1 (Kd.C_below hr' hW) hd1
  have HM := Aside0.mk hM
  have HM' := Aside0.mk hM'
  have HS := Aside0.mk (TX2.start w (.slice A1 rk.length c1) (.int .i64 st) (.slice A2 M.length c2) (.slice B1 rk'.length d1) (.int .i64 st') (.slice B2 M'.length d2))
  have HV := Aside0.mk (show sameB rk st M rk' st' M' = (auB rk st M && (auB rk' st' M' && (eqI rk rk' && (decide (st = st') && eq4 M M')))) from rfl)
  clear hr hc1 hM hc2 hr' hd1 hM' hd2
  generalize sameB rk st M rk' st' M' = R at *
  go_enter Tryz.func28, Tryz.ntmps28
  go_upto_region 1 with (fail)
  generalize ((w.alloc (.cells #[.slice A1 rk.length c1, .int .i64 st, .slice A2 M.length c2] 25)).alloc (.cells #[.slice B1 rk'.length d1, .int .i64 st', .slice B2 M'.length d2] 25)) = W1 at *
  have k0 : W1.cell? ⟨w.heap.size, 0, none⟩ = some (.slice A1 rk.length c1) := (blk_cell (HS.out).box 0).trans rfl
  have k1 : W1.cell? ⟨w.heap.size, 1, none⟩ = some (.int .i64 st) := (blk_cell (HS.out).box 1).trans rfl
  have k2 : W1.cell? ⟨w.heap.size, 2, none⟩ = some (.slice A2 M.length c2) := (blk_cell (HS.out).box 2).trans rfl
  go_wp2_with fail
  refine (HC1.out _ (HS.out).hb).mono ?_
  rintro E W2 ⟨rfl, hb⟩
  have HS2 := Aside0.mk ((HS.out).below hb)
  clear hb HS k0 k1 k2 HC1
  cases h1 : auB rk st M with
  | false =>
    have HP := Aside0.mk (show R = false by rw [HV.out, h1]; rfl)
    clear h1 HV
    go_wp2
    go_ret
    exact ⟨by rw [HP.out]; rfl, (HS2.out).hb⟩
  | true =>
  have HO1 := Aside0.mk (auOk h1)
  rw [h1, Bool.true_and] at HV
  clear h1
  have k0 : W2.cell? ⟨w.heap.size + 1, 0, none⟩ = some (.slice B1 rk'.length d1) := (blk_cell (HS2.out).box' 0).trans rfl
  have k1 : W2.cell? ⟨w.heap.size + 1, 1, none⟩ = some (.int .i64 st') := (blk_cell (HS2.out).box' 1).trans rfl
  have k2 : W2.cell? ⟨w.heap.size + 1, 2, none⟩ = some (.slice B2 M'.length d2) := (blk_cell (HS2.out).box' 2).trans rfl
  go_wp2_with fail
  refine (HC2.out _ (HS2.out).hb).mono ?_
  rintro E W3 ⟨rfl, hb⟩
  have HS3 := Aside0.mk ((HS2.out).below hb)
  clear hb HS2 k0 k1 k2 HC2
  cases h2 : auB rk' st' M' with
  | false =>
    have HP := Aside0.mk (show R = false by rw [HV.out, h2]; rfl)
    clear h2 HV
    go_wp2
    go_ret
    exact ⟨by rw [HP.out]; rfl, (HS3.out).hb⟩
  | true =>
  have HO2 := Aside0.mk (auOk h2)
  rw [h2, Bool.true_and] at HV
  clear h2
  have k0 : W3.cell? ⟨w.heap.size, 0, none⟩ = some (.slice A1 rk.length c1) := (blk_cell (HS3.out).box 0).trans rfl
  have k4 : W3.cell? ⟨w.heap.size + 1, 0, none⟩ = some (.slice B1 rk'.length d1) := (blk_cell (HS3.out).box' 0).trans rfl
  go_wp2_with fail
  refine (HE.out _ (HS3.out).hb).mono ?_
  rintro E W4 ⟨rfl, hb⟩
  have HS4 := Aside0.mk ((HS3.out).below hb)
  clear hb HS3 k0 k4 HE
  cases h4 : eqI rk rk' with
  | false =>
    have HP := Aside0.mk (show R = false by rw [HV.out, h4]; rfl)
    clear HV
    go_wp2
    go_ret
    exact ⟨by rw [HP.out]; rfl, (HS4.out).hb⟩
  | true =>
  have HRE := Aside0.mk ((eqI_iff _ _).1 h4)
  rw [h4, Bool.true_and] at HV
  clear h4
  have k1 : W4.cell? ⟨w.heap.size, 1, none⟩ = some (.int .i64 st) := (blk_cell (HS4.out).box 1).trans rfl
  have k3 : W4.cell? ⟨w.heap.size + 1, 1, none⟩ = some (.int .i64 st') := (blk_cell (HS4.out).box' 1).trans rfl
  cases h3 : (st != st') with
  | true =>
    have HP := Aside0.mk (show R = false by rw [HV.out, show decide (st = st') = false by simpa using h3]; simp)
    clear HV
    go_wp2
    go_ret
    exact ⟨by rw [HP.out]; rfl, (HS4.out).hb⟩
  | false =>
  have h3' : decide (st = st') = true := by simpa using h3
  rw [h3', Bool.true_and] at HV
  have k2 : W4.cell? ⟨w.heap.size, 2, none⟩ = some (.slice A2 M.length c2) := (blk_cell (HS4.out).box 2).trans rfl
  have k5 : W4.cell? ⟨w.heap.size + 1, 2, none⟩ = some (.slice B2 M'.length d2) := (blk_cell (HS4.out).box' 2).trans rfl
  have k0 : W4.cell? ⟨w.heap.size, 0, none⟩ = some (.slice A1 rk.length c1) := (blk_cell (HS4.out).box 0).trans rfl
  cases h5 : ((M.length : Int) != (M'.length : Int)) with
  | true =>
    have HP := Aside0.mk (show R = false by
      rw [HV.out]
      exact eqF_len (by have : ¬ (M.length : Int) = (M'.length : Int) := by simpa using h5
                        omega))
    clear HV
    go_wp2
    go_ret
    exact ⟨by rw [HP.out]; rfl, (HS4.out).hb⟩
  | false =>
  have HLM := Aside0.mk (show M.length = M'.length by have : (M.length : Int) = (M'.length : Int) := by simpa using h5
                                                      omega)
  have HN6 := Aside0.mk (HO1.out).nM
  have HN24 := Aside0.mk (HO1.out).nrk
  go_wp2
  clear k0 k1 k2 k3 k5 h3 h3' h5
  go_loopg [42] M.length (fun gg v42 wi => ∃ q : Nat, q ≤ M.length ∧ M.length - q ≤ gg ∧ v42 = .int .i64 q ∧ Aside0 (TX2 w (.slice A1 rk.length c1) (.int .i64 st) (.slice A2 M.length c2) (.slice B1 rk'.length d1) (.int .i64 st') (.slice B2 M'.length d2) wi) ∧ Aside0 (∀ i, i < q → eq3 (M.getD i []) (M'.getD i []) = true))
  case atStart => exact ⟨0, Nat.zero_le _, Nat.le_refl _, rfl, HS4, ⟨fun i hi => absurd hi (Nat.not_lt_zero _)⟩⟩
  case round =>
    clear HS4
    obtain ⟨q, hq, hgg, rfl, HS, HP⟩ := hrel
    by_cases hlt : q < M.length
    · have hltz : (q : Int) < (M.length : Int) := by omega
      have HLT := Aside0.mk hlt
      have HKQ := Aside0.mk (show wrap64 ((q : Int) + 1) = ((q + 1 : Nat) : Int) by rw [wr_id (by omega) (by have := HN6.out; omega)]; rfl)
      obtain ⟨ad, A3, c3, e, hk, hl3, hC3⟩ := at_sl HM.out q hlt
      subst e
      obtain ⟨bd, B3, d3, e, hkb, hl4, hC4⟩ := at_sl HM'.out q (by have := HLM.out; omega)
      subst e
      have HK := Aside0.mk hk
      have HKB := Aside0.mk hkb
      have HC3 := Aside0.mk hC3
      have HC4 := Aside0.mk hC4
      have HF := Aside0.mk (show eq3 (M.getD q []) (M'.getD q []) = false → R = false from fun h => by rw [HV.out]; exact eqF_at hlt h)
      have HT := Aside0.mk (show eq3 (M.getD q []) (M'.getD q []) = true → ∀ i, i < q + 1 → eq3 (M.getD i []) (M'.getD i []) = true from fun h i hi => by
        rcases Nat.lt_or_ge i q with h2 | h2
        · exact HP.out i h2
        · rw [show i = q by omega]; exact h)
      have HR1 := Aside0.mk ((HO1.out).row _ (getD_memD [] hlt))
      have HR2 := Aside0.mk ((HO2.out).row (M'.getD q []) (getD_memD [] (by have := HLM.out; omega)))
      have k0 : wr.cell? ⟨w.heap.size, 0, none⟩ = some (.slice A1 rk.length c1) := (blk_cell (HS.out).box 0).trans rfl
      clear hk hkb hC3 hC4 hl3 hl4 HP hlt hq
      generalize M.getD q [] = row at *
      generalize M'.getD q [] = row' at *
      go_wp2
      clear k0
      go_loopg [48] rk.length (fun gg v48 wi => ∃ f : Nat, f ≤ rk.length ∧ rk.length - f ≤ gg ∧ v48 = .int .i64 f ∧ Aside0 (TX2 w (.slice A1 rk.length c1) (.int .i64 st) (.slice (some ad) M.length c2) (.slice B1 rk'.length d1) (.int .i64 st') (.slice (some bd) M'.length d2) wi) ∧ Aside0 (∀ i, i < f → eq2 (row.getD i []) (row'.getD i []) = true))
      case atStart => exact ⟨0, Nat.zero_le _, Nat.le_refl _, rfl, HS, ⟨fun i hi => absurd hi (Nat.not_lt_zero _)⟩⟩
      case round =>
        clear HS
        obtain ⟨f, hf, hgg, rfl, HS, HP⟩ := hrel
        by_cases hlt : f < rk.length
        · have hltf : (f : Int) < (rk.length : Int) := by omega
          have hltr : (f : Int) < (row.length : Int) := by have := HR1.out; omega
          have hltr' : (f : Int) < (row'.length : Int) := by have := HR2.out; have := congrArg List.length HRE.out; omega
          have hltm' : (q : Int) < (M'.length : Int) := by have := HLM.out; omega
          have HLF := Aside0.mk hlt
          have HKF := Aside0.mk (show wrap64 ((f : Int) + 1) = ((f + 1 : Nat) : Int) by rw [wr_id (by omega) (by have := HN24.out; omega)]; rfl)
          obtain ⟨ad4, A4, c4, e, hk4, hl4, hC4⟩ := at_sl HC3.out f (by have := HR1.out; omega)
          subst e
          obtain ⟨bd4, B4, d4, e, hkb4, hl5, hC5⟩ := at_sl HC4.out f (by omega)
          subst e
          have HF4 := Aside0.mk (show eq2 (row.getD f []) (row'.getD f []) = false → R = false from fun h => HF.out (eqF_at (by have := HR1.out; omega) h))
          have HT4 := Aside0.mk (show eq2 (row.getD f []) (row'.getD f []) = true → ∀ i, i < f + 1 → eq2 (row.getD i []) (row'.getD i []) = true from fun h i hi => by
            rcases Nat.lt_or_ge i f with h2 | h2
            · exact HP.out i h2
            · rw [show i = f by omega]; exact h)
          have HC := Aside0.mk fun W (hW : Below w.heap.size w W) => eqMoves_calls A4 c4 (row.getD f []) B4 d4 (row'.getD f []) W (Kd.C_below hC4 hW) hl4 (Kd.C_below hC5 hW) hl5
          have HK4 := Aside0.mk hk4
          have HKB4 := Aside0.mk hkb4
          clear hk4 hkb4 hC4 hC5 hl4 hl5 HP hlt hf
          generalize row.getD f [] = al at *
          generalize row'.getD f [] = al' at *
          generalize eq2 al al' = v at *
          have HCE := Aside0.mk (fun (W : World) (h : TX2 w (.slice A1 rk.length c1) (.int .i64 st) (.slice (some ad) M.length c2) (.slice B1 rk'.length d1) (.int .i64 st') (.slice (some bd) M'.length d2) W) =>
            (show (W.cell? ⟨w.heap.size, 2, none⟩ = some (.slice (some ad) M.length c2) ∧ W.cell? ⟨w.heap.size + 1, 2, none⟩ = some (.slice (some bd) M'.length d2)) ∧ (W.cell? (ad.add q) = some (.slice (some ad4) row.length c3) ∧ W.cell? (bd.add q) = some (.slice (some bd4) row'.length d3)) ∧ (W.cell? (ad4.add f) = some (.slice A4 al.length c4) ∧ W.cell? (bd4.add f) = some (.slice B4 al'.length d4)) from
              ⟨⟨(blk_cell h.box 2).trans rfl, (blk_cell h.box' 2).trans rfl⟩, ⟨pw_cell_below h.hb HK.out, pw_cell_below h.hb HKB.out⟩, pw_cell_below h.hb HK4.out, pw_cell_below h.hb HKB4.out⟩))
          go_upto_region 9 with (fail)
          have HS0 := Aside0.mk ((HS.out).below (below_drew (Below.refl _ _)))
          cases v with
          | false =>
            have HVV := Aside0.mk (HF4.out rfl)
            go_region_held3 (fun W => (W.cell? ⟨w.heap.size, 2, none⟩ = some (.slice (some ad) M.length c2) ∧ W.cell? ⟨w.heap.size + 1, 2, none⟩ = some (.slice (some bd) M'.length d2)) ∧ (W.cell? (ad.add q) = some (.slice (some ad4) row.length c3) ∧ W.cell? (bd.add q) = some (.slice (some bd4) row'.length d3)) ∧ (W.cell? (ad4.add f) = some (.slice A4 al.length c4) ∧ W.cell? (bd4.add f) = some (.slice B4 al'.length d4)))
              (first | exact HCE.out _ HSa.out | exact HCE.out _ HS0.out | exact HCE.out _ HS.out | fail)
              (first | (go_at_call 68; (with_reducible refine (HC.out _ (HS0.out).hb).mono ?_); rintro E w2 ⟨rfl, hb⟩; have HSa := Aside0.mk ((HS0.out).below hb); clear hb) | fail)
            go_wp2
            go_ret
            exact ⟨by rw [HVV.out]; rfl, (HSa.out).hb⟩
          | true =>
            have HVV := Aside0.mk (HT4.out rfl)
            go_region_held3 (fun W => (W.cell? ⟨w.heap.size, 2, none⟩ = some (.slice (some ad) M.length c2) ∧ W.cell? ⟨w.heap.size + 1, 2, none⟩ = some (.slice (some bd) M'.length d2)) ∧ (W.cell? (ad.add q) = some (.slice (some ad4) row.length c3) ∧ W.cell? (bd.add q) = some (.slice (some bd4) row'.length d3)) ∧ (W.cell? (ad4.add f) = some (.slice A4 al.length c4) ∧ W.cell? (bd4.add f) = some (.slice B4 al'.length d4)))
              (first | exact HCE.out _ HSa.out | exact HCE.out _ HS0.out | exact HCE.out _ HS.out | fail)
              (first | (go_at_call 68; (with_reducible refine (HC.out _ (HS0.out).hb).mono ?_); rintro E w2 ⟨rfl, hb⟩; have HSa := Aside0.mk ((HS0.out).below hb); clear hb) | fail)
            go_wp2
            go_roundg (rk.length - (f + 1))
            case measure => have := HLF.out; omega
            case rel => exact ⟨f + 1, HLF.out, Nat.le_refl _, by rw [HKF.out], HSa, HVV⟩
        · obtain rfl : f = rk.length := by omega
          have HT6 := Aside0.mk (HT.out (eqF_all (by have := HR1.out; have := HR2.out; have := congrArg List.length HRE.out; omega) (fun i hi => HP.out i (by have := HR1.out; omega))))
          clear HP hlt hf hgg
          go_wp2
          go_roundg (M.length - (q + 1))
          case measure => have := HLT.out; omega
          case rel => exact ⟨q + 1, HLT.out, Nat.le_refl _, by rw [HKQ.out], HS, HT6⟩
    · obtain rfl : q = M.length := by omega
      have HVV := Aside0.mk (show R = true by rw [HV.out]; exact eqF_all HLM.out HP.out)
      clear HP hlt hq hgg
      go_wp2
      go_ret
      exact ⟨by rw [HVV.out]; rfl, (HS.out).hb⟩
end Go.Proofs.YtbmcigakiibncaaGreatDoor.H
namespace Go.Proofs.YtbmcigakiibncaaGreatDoor.H
open Go.RowKit Go.Proofs.YtbmcigakiibncaaGreatDoorW.PrintWords Go.Proofs.YtbmcigakiibncaaGreatDoorW.PrintLast Go.Proofs.YtbmcigakiibncaaGreatDoorW.PrintMore
set_option linter.unusedVariables false
set_option linter.unusedSimpArgs false
theorem TX2.cells {w W : World} {x y z x' y' z' : Value} (h : TX2 w x y z x' y' z' W) : (W.cell? ⟨w.heap.size, 0, none⟩ = some x ∧ W.cell? ⟨w.heap.size, 1, none⟩ = some y ∧ W.cell? ⟨w.heap.size, 2, none⟩ = some z) ∧ (W.cell? ⟨w.heap.size + 1, 0, none⟩ = some x' ∧ W.cell? ⟨w.heap.size + 1, 1, none⟩ = some y' ∧ W.cell? ⟨w.heap.size + 1, 2, none⟩ = some z') :=
  ⟨⟨(blk_cell h.box 0).trans rfl, (blk_cell h.box 1).trans rfl, (blk_cell h.box 2).trans rfl⟩, (blk_cell h.box' 0).trans rfl, (blk_cell h.box' 1).trans rfl, (blk_cell h.box' 2).trans rfl⟩
end Go.Proofs.YtbmcigakiibncaaGreatDoor.H
namespace Go.Proofs.YtbmcigakiibncaaGreatDoor.H
open Go.RowKit Go.Proofs.YtbmcigakiibncaaGreatDoorW.PrintWords Go.Proofs.YtbmcigakiibncaaGreatDoorW.PrintLast Go.Proofs.YtbmcigakiibncaaGreatDoorW.PrintMore
set_option linter.unusedVariables false
set_option linter.unusedSimpArgs false
theorem TX.cells {w W : World} {x y z : Value} (h : TX w x y z W) : W.cell? ⟨w.heap.size, 0, none⟩ = some x ∧ W.cell? ⟨w.heap.size, 1, none⟩ = some y ∧ W.cell? ⟨w.heap.size, 2, none⟩ = some z :=
  ⟨(blk_cell h.box 0).trans rfl, (blk_cell h.box 1).trans rfl, (blk_cell h.box 2).trans rfl⟩
theorem sameB_self (rk : List Int) (st : Int) (M : Mv) : sameB rk st M rk st M = auB rk st M := by
  unfold sameB
  rw [(eqI_iff rk rk).2 rfl, (eq4_iff M M).2 rfl]
  cases auB rk st M <;> simp
end Go.Proofs.YtbmcigakiibncaaGreatDoor.H
namespace Go.Proofs.YtbmcigakiibncaaGreatDoor.H
open Go.RowKit Go.Proofs.YtbmcigakiibncaaGreatDoorW.PrintWords Go.Proofs.YtbmcigakiibncaaGreatDoorW.PrintLast Go.Proofs.YtbmcigakiibncaaGreatDoorW.PrintMore
set_option linter.unusedVariables false
set_option linter.unusedSimpArgs false
set_option maxHeartbeats 4000000 in
set_option maxRecDepth 100000 in
theorem isL_calls (rk : List Int) (M : Mv) (st : Int) (e : Int) (A1 : Option Addr) (c1 : Nat) (A2 : Option Addr) (c2 : Nat) (B1 : Option Addr) (d1 : Nat) (B2 : Option Addr) (d2 : Nat) (w : World)
    (hr : Kd.C (Kd.int .i64) w A1 rk.length rk) (hc1 : rk.length ≤ c1) (hM : Kd.C kA3 w A2 M.length M) (hc2 : M.length ≤ c2)
    (hr' : Kd.C (Kd.int .i64) w B1 rk.length rk) (hd1 : rk.length ≤ d1) (hM' : Kd.C kA3 w B2 M.length M) (hd2 : M.length ≤ d2)
    (h0 : e = 0 → auB rk st M = true) (h1 : e ≠ 0 → rk = [] ∧ st = 0 ∧ M = []) :
    Calls Tryz.prog 23 #[.agg #[.slice A1 rk.length c1, .int .i64 st, .slice A2 M.length c2], .int .i64 e, .agg #[.slice B1 rk.length d1, .int .i64 st, .slice B2 M.length d2], .int .i64 e] w fun E w' => E = .returned (.bool true) ∧ Below w.heap.size w w' := by
  have HSA := Aside0.mk fun W (hW : Below w.heap.size w W) => rsame_calls rk M st A1 c1 A2 c2 rk M st B1 d1 B2 d2 W (Kd.C_below hr hW) hc1 (Kd.C_below hM hW) hc2 (Kd.C_below hr' hW) hd1 (Kd.C_below hM' hW) hd2
  have HS := Aside0.mk (TX2.start w (.slice A1 rk.length c1) (.int .i64 st) (.slice A2 M.length c2) (.slice B1 rk.length d1) (.int .i64 st) (.slice B2 M.length d2))
  have H0 := Aside0.mk h0
  have H1 := Aside0.mk h1
  clear hr hc1 hM hc2 hr' hd1 hM' hd2 h0 h1
  go_enter Tryz.func23, Tryz.ntmps23
  go_upto_region 1 with (fail)
  generalize ((w.alloc (.cells #[.slice A1 rk.length c1, .int .i64 st, .slice A2 M.length c2] 25)).alloc (.cells #[.slice B1 rk.length d1, .int .i64 st, .slice B2 M.length d2] 25)) = W1 at *
  obtain ⟨k0, k1, k2⟩ := box3_cells (HS.out).box
  obtain ⟨k3, k4, k5⟩ := box3_cells (HS.out).box'
  by_cases he : e = 0
  · subst he
    rw [sameB_self, (H0.out) rfl] at HSA
    go_wp2_with fail
    refine (HSA.out _ (HS.out).hb).mono ?_
    rintro E W2 ⟨rfl, hb⟩
    have HS2 := Aside0.mk ((HS.out).below hb)
    clear hb HS k0 k1 k2 k3 k4 k5
    go_wp2
    go_ret
    exact ⟨rfl, (HS2.out).hb⟩
  · obtain ⟨rfl, rfl, rfl⟩ := (H1.out) he
    have e1 : (e == 0) = false := beq_eq_false_iff_ne.2 he
    have e2 : (e != 0) = true := bne_iff_ne.2 he
    clear he H0 H1 HSA
    go_wp2
    go_ret
    exact ⟨rfl, (HS.out).hb⟩
end Go.Proofs.YtbmcigakiibncaaGreatDoor.H
namespace Go.Proofs.YtbmcigakiibncaaGreatDoor.H
open Go.RowKit Go.Proofs.YtbmcigakiibncaaGreatDoorW.PrintWords Go.Proofs.YtbmcigakiibncaaGreatDoorW.PrintLast Go.Proofs.YtbmcigakiibncaaGreatDoorW.PrintMore
set_option linter.unusedVariables false
set_option linter.unusedSimpArgs false
theorem get_as {t : ByteArray} {e : Int} {rk : List Int} {st : Int} {M : Mv} (h : getR t = (e, rk, st, M)) (w : World) (hm : MX w) :
    Calls Tryz.prog 26 #[.string t] w fun E w' => ∃ A1 c1 A2 c2, E = .returned (.tuple #[.agg #[.slice A1 rk.length c1, .int .i64 st, .slice A2 M.length c2], .int .i64 e]) ∧ Kd.C (Kd.int .i64) w' A1 rk.length rk ∧ rk.length ≤ c1 ∧ Kd.C kA3 w' A2 M.length M ∧ M.length ≤ c2 ∧ Below w.heap.size w w' := by
  have q := get_calls t w hm
  unfold GetE at q
  rw [h] at q
  exact q
end Go.Proofs.YtbmcigakiibncaaGreatDoor.H
namespace Go.Proofs.YtbmcigakiibncaaGreatDoor.H
open Go.RowKit Go.Proofs.YtbmcigakiibncaaGreatDoorW.PrintWords Go.Proofs.YtbmcigakiibncaaGreatDoorW.PrintLast Go.Proofs.YtbmcigakiibncaaGreatDoorW.PrintMore
set_option linter.unusedVariables false
set_option linter.unusedSimpArgs false
theorem getR_form (t : ByteArray) : ((getR t).1 = 0 → auB (getR t).2.1 (getR t).2.2.1 (getR t).2.2.2 = true) ∧ ((getR t).1 ≠ 0 → (getR t).2.1 = [] ∧ (getR t).2.2.1 = 0 ∧ (getR t).2.2.2 = []) := by
  constructor
  · intro h
    have e : getR t = (0, (getR t).2.1, (getR t).2.2.1, (getR t).2.2.2) := by rw [← h]
    exact (getR_zero e).2.2
  · intro h
    unfold getR at h ⊢
    split at h
    · rename_i hs
      rw [if_pos hs]; exact ⟨rfl, rfl, rfl⟩
    · rename_i hs
      rw [if_neg hs]
      cases hv : getV t with
      | none => exact ⟨rfl, rfl, rfl⟩
      | some v =>
        obtain ⟨a, b, c⟩ := v
        rw [hv] at h
        simp only [] at h ⊢
        split at h
        · exact absurd rfl h
        · rename_i hc
          rw [if_neg hc]; exact ⟨rfl, rfl, rfl⟩
theorem rget_as {t : ByteArray} {e : Int} {rk : List Int} {st : Int} {M : Mv} (h : getR t = (e, rk, st, M)) (w : World) :
    Calls Tryz.prog 27 #[.string t] w fun E w' => ∃ A1 c1 A2 c2, E = .returned (.tuple #[.agg #[.slice A1 rk.length c1, .int .i64 st, .slice A2 M.length c2], .int .i64 e]) ∧ Kd.C (Kd.int .i64) w' A1 rk.length rk ∧ rk.length ≤ c1 ∧ Kd.C kA3 w' A2 M.length M ∧ M.length ≤ c2 ∧ Below w.heap.size w w' := by
  have q := rget_calls t w
  unfold GetE at q
  rw [h] at q
  exact q
set_option maxHeartbeats 8000000 in
set_option maxRecDepth 100000 in
theorem autoGet_calls (s : ByteArray) (w : World) (hm : MX w) (ht : TabD w) :
    Calls Tryz.prog 6 #[.string s] w fun E w' => E = .returned (.bool true) ∧ Below w.heap.size w w' := by
  obtain ⟨⟨e, rk, st, M⟩, hv⟩ : ∃ v, getR s = v := ⟨_, rfl⟩
  have hf := getR_form s
  rw [hv] at hf
  have HF := Aside0.mk hf
  have H1 := Aside0.mk fun W (hW : Below w.heap.size w W) => get_as hv W (hm.below hW)
  have H2 := Aside0.mk fun W (hW : Below w.heap.size w W) => rget_as hv W
  have HAL := Aside0.mk fun W (hW : Below w.heap.size w W) => alive_calls W (MX.below hm hW) (ht.below hW)
  clear hf hv hm ht
  go_enter Tryz.func6, Tryz.ntmps6
  go_wp2_with fail
  refine (H1.out _ (Below.refl _ _)).mono ?_
  rintro E W1 ⟨A1, c1, A2, c2, rfl, hr1, hc1, hM1, hc2, hb⟩
  have ha := below_alloc (Below.refl W1.heap.size W1) (.cells #[.slice A1 rk.length c1, .int .i64 st, .slice A2 M.length c2] 25)
  have HB2 := Aside0.mk (below_then hb hb.size ha)
  have HX2 := Aside0.mk (blk_new W1 (.cells #[.slice A1 rk.length c1, .int .i64 st, .slice A2 M.length c2] 25))
  have HR2 := Aside0.mk (Kd.C_below hr1 ha)
  have HM2 := Aside0.mk (Kd.C_below hM1 ha)
  have HC1 := Aside0.mk hc1
  have HC2 := Aside0.mk hc2
  clear ha hb hr1 hc1 hM1 hc2 H1
  go_upto_region 2 with (fail)
  generalize W1.alloc (.cells #[.slice A1 rk.length c1, .int .i64 st, .slice A2 M.length c2] 25) = W2 at *
  generalize W1.heap.size = b1 at *
  go_wp2_with fail
  refine (H2.out _ HB2.out).mono ?_
  rintro E W3 ⟨B1, d1, B2, d2, rfl, hr3, hd1, hM3, hd2, hb⟩
  have ha := below_alloc (Below.refl W3.heap.size W3) (.cells #[.slice B1 rk.length d1, .int .i64 st, .slice B2 M.length d2] 25)
  have hb4 := below_then hb hb.size ha
  have HB4 := Aside0.mk (below_then HB2.out (HB2.out).size hb4)
  have HX4 := Aside0.mk (blk_below HX2.out hb4)
  have HY4 := Aside0.mk (blk_new W3 (.cells #[.slice B1 rk.length d1, .int .i64 st, .slice B2 M.length d2] 25))
  have HIS := Aside0.mk (isL_calls rk M st e A1 c1 A2 c2 B1 d1 B2 d2 _ (Kd.C_below HR2.out hb4) HC1.out (Kd.C_below HM2.out hb4) HC2.out (Kd.C_below hr3 ha) hd1 (Kd.C_below hM3 ha) hd2 (HF.out).1 (HF.out).2)
  clear ha hb hb4 hr3 hd1 hM3 hd2 H2 HX2 HR2 HM2 HC1 HC2
  go_upto_region 3 with (fail)
  generalize W3.alloc (.cells #[.slice B1 rk.length d1, .int .i64 st, .slice B2 M.length d2] 25) = W4 at *
  generalize W3.heap.size = b3 at *
  obtain ⟨k0, k1, k2⟩ := box3_cells HX4.out
  obtain ⟨k3, k4, k5⟩ := box3_cells HY4.out
  go_wp2_with fail
  refine (HIS.out).mono ?_
  rintro E W5 ⟨rfl, hb⟩
  have HB5 := Aside0.mk (below_then HB4.out (HB4.out).size hb)
  clear hb k0 k1 k2 k3 k4 k5
  go_wp2_with fail
  refine (HAL.out _ HB5.out).mono ?_
  rintro E W6 ⟨rfl, hb⟩
  have HB6 := Aside0.mk (below_then HB5.out (HB5.out).size hb)
  clear hb
  go_wp2
  go_ret
  exact ⟨rfl, HB6.out⟩
end Go.Proofs.YtbmcigakiibncaaGreatDoor.H
namespace Go.Proofs.YtbmcigakiibncaaGreatDoor.H
open Go.ChangeShapes Go.WideShapes Go.ChangeAt Go.RowKit Go.Deep Go.Proofs.YtbmcigakiibncaaGreatDoorW.PrintWords Go.Proofs.YtbmcigakiibncaaGreatDoorW.PrintLast Go.Proofs.YtbmcigakiibncaaGreatDoorW.PrintMore
open Go.Proofs.YtbmcigakiibncaaGreatDoor.Q (S28 k28 S83 k83)
set_option linter.unusedVariables false
set_option maxRecDepth 100000
def Opens {α : Type} (P : Program) (t : TypeId) (d : Kd α) (W : α → Prop) : Prop :=
  ∀ {H : Type} (enc : TypeId × Value → H) (w : World) (base : Nat) (held : Bool) (fuel : Nat) (cs : List Value) (x : DataW H × List MemPlace),
    DataW.trod enc P w base (fun _ => true) held fuel t cs = some x → ∃ a : α, d.K w a cs ∧ W a
theorem opens_int {P : Program} {t : TypeId} {k : IntKind} (ht : P.underlying t = some (.int k)) : Opens P t (Kd.int k) (fun a => (Lit.int k a).wf = true) := by
  intro H enc w base held fuel cs x h
  obtain ⟨n, rfl, _, hw⟩ := DataW.trod_int ht h
  exact ⟨n, rfl, hw⟩
theorem choose_list {α : Type} {p : Nat → α → Prop} {n : Nat} (h : ∀ i, i < n → ∃ y, p i y) : ∃ xs : List α, xs.length = n ∧ ∀ i y, xs[i]? = some y → p i y := by
  induction n with
  | zero => exact ⟨[], rfl, fun i y h => by simp at h⟩
  | succ n ih =>
    obtain ⟨xs, h1, h2⟩ := ih (fun i hi => h i (by omega))
    obtain ⟨y, hy⟩ := h n (by omega)
    refine ⟨xs ++ [y], by simp [h1], fun i z hz => ?_⟩
    rcases Nat.lt_or_ge i xs.length with hi | hi
    · rw [List.getElem?_append_left hi] at hz
      exact h2 i z hz
    · rw [List.getElem?_append_right hi] at hz
      have h3 : i - xs.length = 0 := by
        rcases Nat.eq_zero_or_pos (i - xs.length) with h | h
        · exact h
        · rw [List.getElem?_eq_none (by simp; omega)] at hz; cases hz
      rw [h3] at hz
      obtain rfl : y = z := by simpa using hz
      rw [show i = n from by omega]
      exact hy
theorem opens_slice {α : Type} {P : Program} {t e : TypeId} {d : Kd α} {W : α → Prop} (ht : P.underlying t = some (.slice e)) (hsz : P.cellsOf e = d.sz) (ho : Opens P e d W) : Opens P t (Kd.slice e d) (fun xs => ∀ x ∈ xs, W x) := by
  intro H enc w base held fuel cs x h
  rcases open_slice ht h with ⟨rfl, _⟩ | ⟨a, len, cap, m, n, D, Pl, rfl, _, hl, hm, hmm, _, hx⟩
  · exact ⟨[], ⟨none, 0, rfl, Nat.le_refl _, rfl, by simp, fun h0 => absurd h0 (by simp)⟩, by simp⟩
  · have hmm' : m = cap := by simpa using hmm
    have each : ∀ i, i < len → ∃ y : α, ∃ cs', w.cells? base (a.add (i * P.cellsOf e)) (P.cellsOf e) = some cs' ∧ d.K w y cs' ∧ W y := by
      intro i hi
      obtain ⟨cs', h1, h2⟩ := hx i (by omega)
      obtain ⟨y, hy, hw⟩ := ho enc w base held n cs' _ h2
      exact ⟨y, cs', h1, hy, hw⟩
    obtain ⟨xs, hxl, hxs⟩ := choose_list each
    refine ⟨xs, ⟨some a, cap, by rw [hxl], by omega, rfl, ?_, fun _ => ⟨a, rfl, fun j p hj => ?_⟩⟩, fun y hy => ?_⟩
    · have : maxLen = 9223372036854775807 := rfl
      omega
    · obtain ⟨cs', h1, h2, _⟩ := hxs j p hj
      obtain ⟨_, hlen, hcell⟩ := World.cells?_some h1
      refine ⟨cs', d.K_len h2, h2, fun i u hu => ?_⟩
      have hi : i < cs'.length := (List.getElem?_eq_some_iff.1 hu).1
      have h3 := hcell i (by omega)
      rw [Go.Deep.add_add, hsz] at h3
      rw [h3]; exact hu
    · obtain ⟨j, hj, rfl⟩ := List.getElem_of_mem hy
      obtain ⟨_, _, _, h3⟩ := hxs j _ (List.getElem?_eq_getElem hj)
      exact h3
theorem open_row {α H : Type} {enc : TypeId × Value → H} {P : Program} {t e : TypeId} {d : Kd α} {W : α → Prop} {w : World} {base fuel : Nat} {held : Bool} {v : Value} {x : DataW H × List MemPlace} (ht : P.underlying t = some (.slice e)) (hsz : P.cellsOf e = d.sz) (ho : Opens P e d W)
    (h : DataW.trod enc P w base (fun _ => true) held fuel t [v] = some x) : ∃ A c xs, v = .slice A xs.length c ∧ xs.length ≤ c ∧ d.C w A xs.length xs ∧ ∀ y ∈ xs, W y := by
  obtain ⟨xs, ⟨A, c, hv, hc, hC⟩, hW⟩ := opens_slice ht hsz ho enc w base held fuel [v] x h
  exact ⟨A, c, xs, by simpa using hv, hc, hC, hW⟩
theorem opens_need : Opens Tryz.prog 83 k83 (fun _ => True) := by
  intro H enc w base held fuel cs x h
  obtain ⟨y0, y1, n, rfl, hl, h0, h1⟩ := trod_struct2 Tryz.underlying83 h
  have o0 : (Tryz.prog.cellsOf 3) = 1 := by kernel_rfl
  have o2 : (Tryz.prog.cellsOf 83) = 2 := by kernel_rfl
  rw [o2] at hl
  match cs, hl with
  | [c0, c1], _ =>
    simp only [o0] at h0 h1
    obtain ⟨s, e0, _, _⟩ := DataW.trod_int Tryz.underlying3 h0
    obtain ⟨t, e1, _, _⟩ := DataW.trod_int Tryz.underlying3 h1
    obtain rfl : c0 = .int .i64 s := by simpa using e0
    obtain rfl : c1 = .int .i64 t := by simpa using e1
    exact ⟨⟨s, t⟩, Q.k83_mk w ⟨s, t⟩, trivial⟩
theorem opens_moves : Opens Tryz.prog 23 (Kd.slice 65 kA3) (fun _ => True) := by
  intro H enc w base held fuel cs x h
  obtain ⟨a, h1, _⟩ := opens_slice (e := 65) Tryz.underlying23 (by kernel_rfl) (opens_slice (e := 66) Tryz.underlying65 (by kernel_rfl) (opens_slice (e := 69) Tryz.underlying66 (by kernel_rfl) (opens_slice (e := 83) Tryz.underlying69 (by kernel_rfl) opens_need))) enc w base held fuel cs x h
  exact ⟨a, h1, trivial⟩
theorem open_kids {H : Type} {enc : TypeId × Value → H} {w : World} {base fuel : Nat} {held : Bool} {cs : List Value} {x : DataW H × List MemPlace} (h : DataW.trod enc Tryz.prog w base (fun _ => true) held fuel 26 cs = some x)
    (each : ∀ (fuel : Nat) (cs : List Value) (y : DataW H × List MemPlace), SizeOf.sizeOf y.1 < SizeOf.sizeOf x.1 → DataW.trod enc Tryz.prog w base (fun _ => true) held fuel 28 cs = some y → ∃ t : S28, k28.K w t cs) :
    ∃ (A : Option Addr) (c : Nat) (l : List S28), cs = [.slice A l.length c] ∧ l.length ≤ c ∧ k28.C w A l.length l := by
  rcases open_slice Tryz.underlying26 h with ⟨rfl, _⟩ | ⟨a, len, cap, m, n, D, Pl, rfl, _, hl, hm, hmm, hxe, hx⟩
  · exact ⟨none, 0, [], rfl, Nat.le_refl _, rfl, by simp, fun h0 => absurd h0 (by simp)⟩
  · have hmm' : m = cap := by simpa using hmm
    have hel : ∀ i, i < len → ∃ t : S28, ∃ cs', w.cells? base (a.add (i * Tryz.prog.cellsOf 28)) (Tryz.prog.cellsOf 28) = some cs' ∧ k28.K w t cs' := by
      intro i hi
      obtain ⟨cs', h1, h2⟩ := hx i (by omega)
      have hlt : SizeOf.sizeOf (D i) < SizeOf.sizeOf x.1 := by
        rw [hxe]
        have hmem : D i ∈ (List.range len).map D := List.mem_map.2 ⟨i, List.mem_range.2 hi, rfl⟩
        have := List.sizeOf_lt_of_mem hmem
        simp only [DataW.slice.sizeOf_spec]
        omega
      obtain ⟨t, ht⟩ := each n cs' _ hlt h2
      exact ⟨t, cs', h1, ht⟩
    obtain ⟨xs, hxl, hxs⟩ := choose_list hel
    have c28 : Tryz.prog.cellsOf 28 = 2 := by kernel_rfl
    refine ⟨some a, cap, xs, by rw [hxl], by omega, rfl, ?_, fun _ => ⟨a, rfl, fun j p hj => ?_⟩⟩
    · have : maxLen = 9223372036854775807 := rfl
      omega
    · obtain ⟨cs', h1, h2⟩ := hxs j p hj
      obtain ⟨_, hlen, hcell⟩ := World.cells?_some h1
      refine ⟨cs', k28.K_len h2, h2, fun i u hu => ?_⟩
      have hi : i < cs'.length := (List.getElem?_eq_some_iff.1 hu).1
      have h3 := hcell i (by omega)
      rw [Go.Deep.add_add, c28] at h3
      rw [show k28.sz = 2 from rfl, h3]; exact hu
theorem open_tree {H : Type} {enc : TypeId × Value → H} {w : World} {base : Nat} {held : Bool} (N : Nat) : ∀ (fuel : Nat) (cs : List Value) (x : DataW H × List MemPlace), SizeOf.sizeOf x.1 ≤ N → DataW.trod enc Tryz.prog w base (fun _ => true) held fuel 28 cs = some x → ∃ t : S28, k28.K w t cs := by
  induction N with
  | zero =>
    intro fuel cs x hN
    have : 0 < SizeOf.sizeOf x.1 := by cases x.1 <;> simp <;> omega
    omega
  | succ N ih =>
    intro fuel cs x hN h
    obtain ⟨y0, y1, n, rfl, hl, h0, h1⟩ := trod_struct2 Tryz.underlying28 h
    have o0 : (Tryz.prog.cellsOf 3) = 1 := by kernel_rfl
    have o1 : (Tryz.prog.cellsOf 26) = 1 := by kernel_rfl
    have o2 : (Tryz.prog.cellsOf 28) = 2 := by kernel_rfl
    rw [o2] at hl
    match cs, hl with
    | [c0, c1], _ =>
      simp only [o0, o1] at h0 h1
      obtain ⟨s, e0, _, _⟩ := DataW.trod_int Tryz.underlying3 h0
      obtain ⟨A, c, l, e1, hlc, hC⟩ := open_kids h1 (fun fuel cs y hy hh => ih fuel cs y (by simp only [DataW.agg.sizeOf_spec, List.cons.sizeOf_spec, List.nil.sizeOf_spec] at hN; omega) hh)
      obtain rfl : c0 = .int .i64 s := by simpa using e0
      obtain rfl : c1 = .slice A l.length c := by simpa using e1
      exact ⟨⟨s, l⟩, Q.k28_mk w ⟨s, l⟩ hlc hC⟩
theorem arg_tree {H : Type} {enc : TypeId × Value → H} {w : World} {base : Nat} {held : Bool} {v : Value} {d : DataW H} {p : List MemPlace} (hv : Value.okWide Tryz.prog w .any base 28 v) (h : DataW.Trod enc Tryz.prog w 0 (fun _ => true) held 28 v d p) :
    ∃ (t : S28) (A : Option Addr) (c : Nat), v = .agg #[.int .i64 t.f0, .slice A t.f1.length c] ∧ t.f1.length ≤ c ∧ k28.C w A t.f1.length t.f1 := by
  obtain ⟨x3, y3, _, _, n3, rfl, _, _, a3, b3⟩ := Go.Joins.open_agg2 Tryz.underlying28 (by kernel_rfl) (by kernel_rfl) hv h
  obtain ⟨s3, he3, _, we3⟩ := DataW.trod_int Tryz.underlying3 a3
  obtain rfl : x3 = .int .i64 s3 := by simpa using he3
  obtain ⟨A3, cc3, l3, hy3, hl3, hC3⟩ := open_kids b3 (fun fuel cs y hy hh => open_tree _ fuel cs y (Nat.le_refl _) hh)
  obtain rfl : y3 = .slice A3 l3.length cc3 := by simpa using hy3
  exact ⟨⟨s3, l3⟩, A3, cc3, rfl, hl3, hC3⟩
theorem arg_auto {H : Type} {enc : TypeId × Value → H} {w : World} {base : Nat} {held : Bool} {v : Value} {d : DataW H} {p : List MemPlace} (hv : Value.okWide Tryz.prog w .any base 25 v) (h : DataW.Trod enc Tryz.prog w 0 (fun _ => true) held 25 v d p) :
    ∃ (rk : List Int) (st : Int) (M : Mv) (A1 : Option Addr) (c1 : Nat) (A2 : Option Addr) (c2 : Nat), v = .agg #[.slice A1 rk.length c1, .int .i64 st, .slice A2 M.length c2] ∧ rk.length ≤ c1 ∧ Kd.C (Kd.int .i64) w A1 rk.length rk ∧ M.length ≤ c2 ∧ Kd.C kA3 w A2 M.length M ∧ (Lit.int .i64 st).wf = true ∧ ∀ x ∈ rk, (Lit.int .i64 x).wf = true := by
  obtain ⟨x0, y0, z0, _, _, _, n0, rfl, _, _, a0, b0, c0⟩ := Go.Joins.open_agg3 Tryz.underlying25 (by kernel_rfl) (by kernel_rfl) hv h
  obtain ⟨A1, c1, rk, rfl, hl1, hC1, hw1⟩ := open_row (d := Kd.int .i64) Tryz.underlying22 (by kernel_rfl) (opens_int Tryz.underlying3) a0
  obtain ⟨st, hs, _, ws⟩ := DataW.trod_int Tryz.underlying3 b0
  obtain rfl : y0 = .int .i64 st := by simpa using hs
  obtain ⟨M, ⟨A2, c2, e2, hl2, hC2⟩, _⟩ := opens_moves enc _ _ _ _ _ _ c0
  obtain rfl : z0 = .slice A2 M.length c2 := by simpa using e2
  exact ⟨rk, st, M, A1, c1, A2, c2, rfl, hl1, hC1, hl2, hC2, ws, hw1⟩
theorem own : ownKnob Tryz.prog.godebug = none := by kernel_rfl
theorem laidOut : laidOutB Tryz.prog = true := by kernel_rfl
theorem g64 : Tryz.prog.globalNamed "math/bits.deBruijn64tab" = some 1 := by kernel_rfl
theorem t64 : (Tryz.prog.globals[1]?).map (·.type) = some 156 := by kernel_rfl
abbrev laid7 : List (String × DataW Unit) := [("math/bits.deBruijn32tab", Rows.laid_math_bits_deBruijn32tab), ("math/bits.deBruijn64tab", Rows.laid_math_bits_deBruijn64tab), ("internal/strconv.uint64pow10", Rows.laid_internal_strconv_uint64pow10), ("unicode/utf8.acceptRanges", Rows.laid_unicode_utf8_acceptRanges), ("strconv.ErrRange", Rows.laid_strconv_ErrRange), ("strconv.ErrSyntax", Rows.laid_strconv_ErrSyntax), ("unicode/utf8.first", Rows.laid_unicode_utf8_first)]
theorem mx_of_shaped {w : World} (h : w.ShapedOpen Tryz.prog) : MX w :=
  Go.Proofs.cell_of_shapedOpen_int (g := 2) (t := 3) (zero := #[.int .i64 0]) h (of_decide_eq_true (by kernel_rfl)) (by kernel_rfl) rfl (by kernel_rfl) (by kernel_rfl) Tryz.underlying3
theorem tabD_of_laid {W : World} (h : laidMetH Tryz.prog laid7 W) : TabD W := by
  rw [MakeChecks.laidMetH_plain _ _ _ (by kernel_rfl)] at h
  obtain ⟨ps, ⟨g0, t0, cs0, f0, p0, q0, hg0, ht0, hv0, hd0, ⟨g1, t1, cs1, f1, p1, q1, hg1, ht1, hv1, hd1, _, _⟩, _⟩, _, _⟩ := h
  obtain rfl := Option.some.inj (g64.symm.trans hg1)
  obtain rfl := Option.some.inj (t64.symm.trans ht1)
  obtain ⟨xs, m1, rfl, hx1, hlen, hn, hel⟩ := DataW.trod_array Tryz.underlying156 hd1
  have c5 : Tryz.prog.cellsOf 5 = 1 := by kernel_rfl
  simp only [Prod.mk.injEq] at hx1
  have hxe := hx1.1
  intro i hi
  have h1 := hel i hi
  rw [c5, Nat.mul_one] at h1
  cases hxi : xs[i]? with
  | none =>
    have := List.getElem?_eq_none_iff.1 hxi
    omega
  | some x =>
    rw [hxi] at h1
    obtain ⟨n, e1, e2, _⟩ := DataW.trod_int Tryz.underlying5 h1
    have hc := World.var?_cell hg1 hv1 i
    rw [hc, ← Array.getElem?_toList]
    have h3 := congrArg (·[0]?) e1
    have h4 : cs1.toList[i]? = some (.int .u8 n) := by simpa [List.getElem?_take, List.getElem?_drop] using h3
    rw [h4]
    have h5 : (xs.map (·.1))[i]? = some (.lit (.int .u8 n)) := by rw [List.getElem?_map, hxi]; simp [e2]
    have h6 : (xs.map (·.1)) = Lib.deBruijn64tab.map fun (n : Nat) => (.lit (.int .u8 (n : Int)) : DataW Unit) := by
      first | exact (DataW.agg.inj hxe).symm | exact DataW.agg.inj hxe
    rw [h6, List.getElem?_map] at h5
    have h7 : i < Lib.deBruijn64tab.length := by rw [show Lib.deBruijn64tab.length = 64 from rfl]; exact hi
    rw [List.getElem?_eq_getElem h7] at h5
    have h8 : ((Lib.deBruijn64tab[i] : Nat) : Int) = n := by simpa using h5
    rw [List.getD, List.getElem?_eq_getElem h7]
    simp [h8]
theorem handed_and_shaped {H : Type} {enc : TypeId × Value → H} {a : Assume} {C : Checked} {os : Os} {f : FuncId} {fn : Func} {s : ChangeSpec} {conds : List PathCond} {apart fresh handsOn again : Bool} {X : World → Array Value → Prop}
    (hX : ∀ (w w' : World) (args : Array Value), w.heap = w'.heap → X w args → X w' args)
    (own : ownKnob C.prog.godebug = none) (started : os.Started) (noInit : C.prog.inits.idxOf? f = none) (hfn : C.prog.funcs[f]? = some fn)
    (witness : ∃ (w : World) (tape : Tape) (i : Input), w.os = os ∧ (w.forCall tape i).Shaped C.prog ∧ i.vars = [] ∧ Input.okWide C.prog (w.forCall tape i) .any w.heap.size f i ∧
      ((s.pre enc C.prog fn conds apart (w.forCall tape i).memory i.args ∧ X (w.forCall tape i).memory i.args) ∧ sizedMet enc C.prog fn (OpenSpec.ofChange s) apart (w.forCall tape i).memory i.args) ∧ a.holds C.prog (lone (Frame.enter C.prog f i.args .normal) [] (w.forCall tape i)))
    (contract : ∀ (W : World) (base : Nat) (args : Array Value) (ds gs : List (DataW H)) (before : List MemPlace),
      (∀ (j : Nat) t v, fn.params[j]? = some t → args[j]? = some v → Value.okWide C.prog W .any base t v) →
      DataW.Whole enc C.prog fn.params.toList s.vars apart W args.toList ds gs before →
      conds.all (PathCond.test C.prog ⟨fn.params.toList, ds, s.plain.varTypes C.prog, gs⟩) = true →
      X W args → W.ShapedOpen C.prog →
      Calls C.prog f args W fun e W' => ∃ v, e = .returned v ∧ s.post enc C.prog fn apart fresh handsOn again W args v W') :
    ReturnsInHanded a C os f .any (fun w args => (s.pre enc C.prog fn conds apart w args ∧ X w args) ∧ sizedMet enc C.prog fn (OpenSpec.ofChange s) apart w args) (s.post enc C.prog fn apart fresh handsOn again) := by
  refine returnsInHanded_of_calls own started noInit witness ?_
  intro w tape i _ hsh _ hok hpre hholds
  obtain ⟨_, _, _, fn', hfn', _, _, _, _, hval⟩ := hok
  have e : fn' = fn := Option.some.inj (hfn'.symm.trans hfn)
  subst e
  obtain ⟨⟨⟨ds, gs, before, hw, hc⟩, hx⟩, hz⟩ := hpre
  have hw' := DataW.Whole.of_heap (w' := w.forCall tape i) (by rfl) hw
  refine (contract (w.forCall tape i) w.heap.size i.args ds gs before hval hw' hc (hX _ _ _ (by rfl) hx) hsh).mono fun e W' ⟨v, he, hp⟩ => ?_
  subst he
  exact ChangeSpec.post_blind hp
end Go.Proofs.YtbmcigakiibncaaGreatDoor.H
