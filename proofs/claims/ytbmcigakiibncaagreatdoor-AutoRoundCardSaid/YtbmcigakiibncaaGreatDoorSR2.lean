/- What autoRound_calls, handed_and_shaped, own, laidOut, laid7, mx_of_shaped, tabD_of_laid, arg_auto, arg_tree needs, out of my texts, by a program (slim.py). -/
import Derived.Test.YtbmcigakiibncaaGreatDoorSR1
namespace Go.Proofs.YtbmcigakiibncaaGreatDoor.H
open Go.RowKit Go.Proofs.YtbmcigakiibncaaGreatDoorW.PrintWords Go.Proofs.YtbmcigakiibncaaGreatDoorW.PrintLast Go.Proofs.YtbmcigakiibncaaGreatDoorW.PrintMore
open Go.Proofs.YtbmcigakiibncaaGreatDoor.Q (S28 k28 S83 k83)
set_option linter.unusedVariables false
theorem C_kids {α : Type} {e : TypeId} {d : Kd α} {w : World} {A : Option Addr} {xs : List (List α)} (h : Kd.C (Kd.slice e d) w A xs.length xs) {x : List α} (hx : x ∈ xs) : ∃ A1, Kd.C d w A1 x.length x := by
  obtain ⟨i, hi, rfl⟩ := List.mem_iff_getElem.1 hx
  obtain ⟨ad, c, e, _, hK, _⟩ := Kd.C_get h [] (i : Int) (by omega) (by omega)
  obtain ⟨A1, c1, _, _, h1⟩ := hK
  rw [Int.toNat_natCast, List.getD_eq_getElem?_getD, List.getElem?_eq_getElem hi] at h1
  exact ⟨A1, h1⟩
theorem rk6_eq : ∀ (k : Nat) (x0 x5 : List Int) (x6 x7 : Int), Q.virgationref06_Ranks.l0 k x0 x5 x6 x7 = Q.tree_Ranks.l0 k x0 x5 x6 x7
  | 0, _, _, _, _ => rfl
  | k + 1, x0, x5, x6, x7 => by
    simp only [Q.virgationref06_Ranks.l0, Q.tree_Ranks.l0]
    rw [rk6_eq k]
theorem ranks6_ev (l : List Int) (hm : l.length ≤ 9223372036854775807) : Ev (fun k => Q.virgationref06_Ranks.f k l) (ranksB l) :=
  Ev.congr (fun k => rk6_eq k l l (l.length : Int) 0) (ranks_ev l hm)
def rowR (rk : List Int) (n : Int) (row : List (List (List Nd))) : Bool := decide (row.length = rk.length) && allF (fun f => altsB (rd rk (f : Int)) n (row.getD f [])) 0 row.length
def isR (rk : List Int) (st : Int) (M : Mv) : Bool := ranksB rk && decide (1 ≤ M.length) && decide (M.length ≤ 6) && decide (0 ≤ st) && decide (st < (M.length : Int)) && allF (fun q => rowR rk (M.length : Int) (M.getD q [])) 0 M.length
theorem up_len {l : List Nat} {m : Nat} (h : ∀ x ∈ l, x < m) (hu : ∀ i, i + 1 < l.length → l.getD i 0 < l.getD (i + 1) 0) : l.length ≤ m := by
  have key : ∀ i, i < l.length → i ≤ l.getD i 0 := by
    intro i
    induction i with
    | zero => intro _; omega
    | succ i ih =>
      intro hi
      have := ih (by omega)
      have := hu i hi
      omega
  rcases Nat.eq_zero_or_pos l.length with h0 | h0
  · omega
  · have h1 := key (l.length - 1) (by omega)
    have h2 := h _ (getD_memD 0 (show l.length - 1 < l.length by omega))
    omega
theorem alt_short {r n : Int} {l : List Nd} (hr : r ≤ 4) (hn : n ≤ 6) (h1 : l.any (nbad r n) = false) (h2 : upN l = true) : l.length ≤ 24 := by
  have hb : ∀ x ∈ l, 0 ≤ x.f0 ∧ x.f0 < 4 ∧ 0 ≤ x.f1 ∧ x.f1 < 6 := by
    intro x hx
    cases e : nbad r n x with
    | true => rw [List.any_eq_true.2 ⟨x, hx, e⟩] at h1; cases h1
    | false =>
      unfold nbad at e
      simp only [Bool.or_eq_false_iff, decide_eq_false_iff_not] at e
      omega
  have key := up_len (l := l.map fun x => x.f0.toNat * 6 + x.f1.toNat) (m := 24) (by
    intro x hx
    obtain ⟨y, hy, rfl⟩ := List.mem_map.1 hx
    have := hb y hy
    omega) (by
    intro i hi
    rw [List.length_map] at hi
    have h3 := List.all_eq_true.1 h2 i (List.mem_range.2 (by omega))
    have hx := hb _ (getD_memD zN (show i < l.length by omega))
    have hy := hb _ (getD_memD zN hi)
    have e : ∀ j, j < l.length → (l.map fun x : Nd => x.f0.toNat * 6 + x.f1.toNat).getD j 0 = (l.getD j zN).f0.toNat * 6 + (l.getD j zN).f1.toNat := by
      intro j hj
      simp [List.getD_eq_getElem?_getD, hj]
    rw [e i (by omega), e (i + 1) hi]
    simp only [decide_eq_true_eq] at h3
    unfold befI at h3
    split at h3 <;> omega)
  rwa [List.length_map] at key
theorem altB_list {r n : Int} {l : List Nd} (hr : r ≤ 4) (hn : n ≤ 6) : altB r n l = listOk r n l := by
  rw [altB_eq]
  unfold listOk
  cases h1 : l.any (nbad r n) with
  | true => simp
  | false =>
    cases h2 : upN l with
    | false => simp
    | true => rw [decide_eq_true (alt_short hr hn h1 h2)]; rfl
theorem altsB_ok {r n : Int} {l : List (List Nd)} (hr : r ≤ 4) (hn : n ≤ 6) : altsB r n l = altsOk r n l := by
  rw [altsB_eq]
  unfold altsOk
  rw [show altB r n = listOk r n from funext fun x => altB_list hr hn]
theorem isR_eq (rk : List Int) (st : Int) (M : Mv) : isR rk st M = auB rk st M := by
  unfold isR auB
  cases h0 : ranksB rk with
  | false => simp only [Bool.false_and]
  | true =>
    by_cases h2 : M.length ≤ 6
    · have hrk : ∀ f : Nat, f < rk.length → rd rk (f : Int) ≤ 4 := by
        intro f hf
        unfold ranksB at h0
        simp only [Bool.and_eq_true, decide_eq_true_eq, List.all_eq_true] at h0
        rw [rd_at hf]
        exact (h0.1 _ (List.getElem_mem hf)).2
      have hrow : ∀ row, rowR rk (M.length : Int) row = mrowOk rk (M.length : Int) row := by
        intro row
        unfold rowR mrowOk
        by_cases hl : row.length = rk.length
        · rw [decide_eq_true hl, Bool.true_and, Bool.true_and, hl, Bool.eq_iff_iff, allF_iff, List.all_eq_true]
          constructor
          · intro h f hf
            have hf := List.mem_range.1 hf
            have := h f (Nat.zero_le _) (by omega)
            rwa [altsB_ok (hrk f hf) (by omega)] at this
          · intro h f _ hf
            have := h f (List.mem_range.2 (by omega))
            rwa [← altsB_ok (hrk f (by omega)) (by omega)] at this
        · rw [decide_eq_false hl, Bool.false_and, Bool.false_and]
      have e : allF (fun q => rowR rk (M.length : Int) (M.getD q [])) 0 M.length = M.all (mrowOk rk (M.length : Int)) := by
        rw [Bool.eq_iff_iff, allF_iff, List.all_eq_true]
        constructor
        · intro h x hx
          obtain ⟨i, hi, rfl⟩ := List.mem_iff_getElem.1 hx
          have := h i (Nat.zero_le _) (by omega)
          rw [hrow, List.getD_eq_getElem?_getD, List.getElem?_eq_getElem hi] at this
          exact this
        · intro h i _ hi
          rw [hrow]
          exact h _ (getD_memD [] (by omega))
      rw [e]
    · rw [decide_eq_false h2]; simp
end Go.Proofs.YtbmcigakiibncaaGreatDoor.H
namespace Go.Proofs.YtbmcigakiibncaaGreatDoor.H
open Go.RowKit Go.Proofs.YtbmcigakiibncaaGreatDoorW.PrintWords Go.Proofs.YtbmcigakiibncaaGreatDoorW.PrintLast Go.Proofs.YtbmcigakiibncaaGreatDoorW.PrintMore
set_option linter.unusedVariables false
set_option linter.unusedSimpArgs false
theorem rbefore_calls (x y : Nd) (W : World) : Calls Tryz.prog 114 #[.agg #[.int .i64 x.f0, .int .i64 x.f1], .agg #[.int .i64 y.f0, .int .i64 y.f1]] W fun E w' => E = .returned (.int .i64 (sgI (befI x y))) ∧ Below W.heap.size W w' := by
  obtain ⟨k, hk⟩ := (beforeR_ev x y).rounds
  exact Q.virgationref09_Before.calls k x.f0 x.f1 y.f0 y.f1 _ W hk
theorem altB_false {r n : Int} {l : List Nd} {j : Nat} (hj : j < l.length) (h : altAt l r n j = false) : altB r n l = false := by
  cases e : altB r n l with
  | false => rfl
  | true =>
    unfold altB at e
    rw [allF_iff] at e
    rw [e j (Nat.zero_le _) (by omega)] at h; cases h
theorem altB_true {r n : Int} {l : List Nd} (h : ∀ i, i < l.length → altAt l r n i = true) : altB r n l = true := by
  unfold altB
  rw [allF_iff]
  exact fun i _ hi => h i (by omega)
theorem altAt_bad {l : List Nd} {r n : Int} {j : Nat} (h : nbad r n (l.getD j zN) = true) : altAt l r n j = false := by unfold altAt; rw [h]; rfl
theorem altAt_zero {l : List Nd} {r n : Int} (h : nbad r n (l.getD 0 zN) = false) : altAt l r n 0 = true := by unfold altAt; rw [h]; rfl
theorem altAt_succ {l : List Nd} {r n : Int} {i : Nat} (h : nbad r n (l.getD (i + 1) zN) = false) : altAt l r n (i + 1) = decide (befI (l.getD i zN) (l.getD (i + 1) zN) < 0) := by unfold altAt; rw [h]; simp
theorem nbad_q {r n : Int} {x : Nd} : nbad r n x = (decide (x.f0 < 0) || decide (x.f0 ≥ r) || decide (x.f1 < 0) || decide (x.f1 ≥ n)) := rfl
structure NB (w : World) (b : Nat) (x : Nd) (W : World) : Prop where
  hb : Below w.heap.size w W
  box : W.heap[b]? = some (.cells #[.int .i64 x.f0, .int .i64 x.f1] 83 (0, 0))
theorem NB.below {w W W1 : World} {b : Nat} {x : Nd} (h : NB w b x W) (hb : Below W.heap.size W W1) : NB w b x W1 := ⟨below_then h.hb h.hb.size hb, blk_below h.box hb⟩
theorem NB.cells {w W : World} {b : Nat} {x : Nd} (h : NB w b x W) : W.cell? ⟨b, 0, none⟩ = some (.int .i64 x.f0) ∧ W.cell? ⟨b, 1, none⟩ = some (.int .i64 x.f1) :=
  ⟨(blk_cell h.box 0).trans rfl, (blk_cell h.box 1).trans rfl⟩
set_option maxHeartbeats 8000000 in
set_option maxRecDepth 100000 in
theorem altR_calls (A : Option Addr) (c : Nat) (l : List Nd) (r n : Int) (w : World) (hr : Kd.C Q.k83 w A l.length l) :
    Calls Tryz.prog 93 #[.slice A l.length c, .int .i64 r, .int .i64 n] w fun e w' => e = .returned (.bool (altB r n l)) ∧ Below w.heap.size w w' := by
  have HR := Aside0.mk hr
  have HM := Aside0.mk (show l.length ≤ 9223372036854775807 from hr.2.1)
  clear hr
  go_enter Tryz.func93, Tryz.ntmps93
  go_wp2
  go_loopg [11] l.length (fun gg v11 wi => ∃ j : Nat, j ≤ l.length ∧ l.length - j ≤ gg ∧ v11 = .int .i64 j ∧ Aside0 (Below w.heap.size w wi) ∧ Aside0 (∀ i, i < j → altAt l r n i = true))
  case atStart => exact ⟨0, Nat.zero_le _, Nat.le_refl _, rfl, ⟨Below.refl _ _⟩, ⟨fun i hi => absurd hi (Nat.not_lt_zero _)⟩⟩
  case round =>
    obtain ⟨j, hj, hgg, rfl, HB, HP⟩ := hrel
    by_cases hlt : j < l.length
    · have hltz : (j : Int) < (l.length : Int) := by omega
      have HLT := Aside0.mk hlt
      have HKZ := Aside0.mk (show wrap64 ((j : Int) + 1) = ((j + 1 : Nat) : Int) by rw [wr_id (by omega) (by have := HM.out; omega)]; rfl)
      obtain ⟨ad, e, hk, hkb⟩ := at_need HR.out j hlt
      subst e
      replace hk := pw_cell_below HB.out hk
      replace hkb := pw_cell_below HB.out hkb
      have HF := Aside0.mk (show nbad r n (l.getD j zN) = true → altB r n l = false from fun h => altB_false hlt (altAt_bad h))
      have HZ := Aside0.mk (show j = 0 → nbad r n (l.getD j zN) = false → ∀ i, i < j + 1 → altAt l r n i = true from fun h0 hnb i hi => by subst h0; rw [show i = 0 by omega]; exact altAt_zero hnb)
      have HVF := Aside0.mk (show ∀ i, j = i + 1 → nbad r n (l.getD j zN) = false → ¬ befI (l.getD i zN) (l.getD j zN) < 0 → altB r n l = false from fun i e hnb h => altB_false hlt (by subst e; rw [altAt_succ hnb]; exact decide_eq_false h))
      have HVT := Aside0.mk (show ∀ i, j = i + 1 → nbad r n (l.getD j zN) = false → befI (l.getD i zN) (l.getD j zN) < 0 → ∀ i', i' < j + 1 → altAt l r n i' = true from fun i e hnb h i' hi' => by
          rcases Nat.lt_or_ge i' j with h2 | h2
          · exact HP.out i' h2
          · rw [show i' = j by omega]; subst e; rw [altAt_succ hnb]; exact decide_eq_true h)
      clear HP
      generalize l.getD j zN = x at *
      go_upto_region 4 with (fail)
      have HN := Aside0.mk (NB.mk (below_alloc HB.out (.cells #[.int .i64 x.f0, .int .i64 x.f1] 83)) (blk_new wr (.cells #[.int .i64 x.f0, .int .i64 x.f1] 83)))
      generalize wr.alloc (.cells #[.int .i64 x.f0, .int .i64 x.f1] 83) = W8 at *
      have hc3 := (HN.out).cells.1
      have hc4 := (HN.out).cells.2
      clear hk hkb
      generalize wr.heap.size = b at *
      cases q1 : decide (x.f0 < 0) with
      | true =>
        have HV := Aside0.mk (HF.out (by rw [nbad_q, q1]; rfl))
        go_quiet (fail)
        go_wp2
        go_ret
        exact ⟨by rw [HV.out]; rfl, by apply pw_below_drewN; exact (HN.out).hb⟩
      | false =>
      cases q2 : decide (x.f0 ≥ r) with
      | true =>
        have HV := Aside0.mk (HF.out (by rw [nbad_q, q1, q2]; rfl))
        go_quiet (fail)
        go_wp2
        go_ret
        exact ⟨by rw [HV.out]; rfl, by apply pw_below_drewN; exact (HN.out).hb⟩
      | false =>
      cases q3 : decide (x.f1 < 0) with
      | true =>
        have HV := Aside0.mk (HF.out (by rw [nbad_q, q1, q2, q3]; rfl))
        go_quiet (fail)
        go_wp2
        go_ret
        exact ⟨by rw [HV.out]; rfl, by apply pw_below_drewN; exact (HN.out).hb⟩
      | false =>
      cases q4 : decide (x.f1 ≥ n) with
      | true =>
        have HV := Aside0.mk (HF.out (by rw [nbad_q, q1, q2, q3, q4]; rfl))
        go_quiet (fail)
        go_wp2
        go_ret
        exact ⟨by rw [HV.out]; rfl, by apply pw_below_drewN; exact (HN.out).hb⟩
      | false =>
      have HNB := Aside0.mk (show nbad r n x = false by rw [nbad_q, q1, q2, q3, q4]; rfl)
      cases j with
      | zero =>
        have HT := Aside0.mk (HZ.out rfl HNB.out)
        have q5 : decide (((0 : Nat) : Int) > 0) = false := by decide
        go_quiet (fail)
        go_wp2
        go_roundg (l.length - (0 + 1))
        case measure => have := HLT.out; omega
        case rel => exact ⟨0 + 1, HLT.out, Nat.le_refl _, by first | rw [HKZ.out] | rfl, ⟨by first | (apply pw_below_drewN; exact (HN.out).hb) | exact (HN.out).hb⟩, HT⟩
      | succ i =>
        obtain ⟨ad', e, hk, hkb⟩ := at_need HR.out i (by omega)
        cases e
        replace hk := pw_cell_below (HN.out).hb hk
        replace hkb := pw_cell_below (HN.out).hb hkb
        have HBE := Aside0.mk (rbefore_calls (l.getD i zN) x)
        have HVF' := Aside0.mk (HVF.out i rfl HNB.out)
        have HVT' := Aside0.mk (HVT.out i rfl HNB.out)
        clear HF HVF HVT HZ
        generalize l.getD i zN = y at *
        generalize befI y x = v at *
        have HS := Aside0.mk (sgI_neg v)
        generalize sgI v = sv at *
        have q5 : decide (((i + 1 : Nat) : Int) > 0) = true := decide_eq_true (by omega)
        have q6 : wrap64 (((i + 1 : Nat) : Int) - 1) = (i : Int) := wrap_pred (by have := HM.out; have := HLT.out; omega)
        have q7 : (i : Int) < (l.length : Int) := by omega
        have q9 : (0 : Int) ≤ (i : Int) := by omega
        have q10 : wrap64 (i : Int) = (i : Int) := wr_id (by omega) (by have := HM.out; have := HLT.out; omega)
        have hwj : IntKind.i64.wrap (i : Int) = (i : Int) := by rw [i64_w]; exact q10
        have HN0 := Aside0.mk ((HN.out).below (below_drew (Below.refl _ _)))
        have hk' := pw_cell_below (below_drew (Below.refl W8.heap.size W8)) hk
        have hkb' := pw_cell_below (below_drew (Below.refl W8.heap.size W8)) hkb
        cases q8 : decide (sv ≥ 0) with
        | true =>
          have HV := Aside0.mk (HVF'.out (fun h => by have := (HS.out).2 h; have := of_decide_eq_true q8; omega))
          go_region_held3 (fun w' => (w'.cell? ⟨b, 0, none⟩ = some (.int .i64 x.f0) ∧ w'.cell? ⟨b, 1, none⟩ = some (.int .i64 x.f1)) ∧ (w'.cell? (ad.add (i * 2)) = some (.int .i64 y.f0) ∧ w'.cell? ⟨(ad.add (i * 2)).block, (ad.add (i * 2)).off + 1, none⟩ = some (.int .i64 y.f1)))
            (first | exact ⟨(HN2.out).cells, pw_cell_below HB2.out hk', pw_cell_below HB2.out hkb'⟩ | exact ⟨(HN0.out).cells, hk', hkb'⟩ | exact ⟨(HN.out).cells, hk, hkb⟩ | fail)
            (first | (go_at_call 114; (with_reducible refine (HBE.out _).mono ?_); rintro E w2 ⟨rfl, hb⟩; have HN2 := Aside0.mk ((HN0.out).below hb); have HB2 := Aside0.mk hb; clear hb) | fail)
          go_wp2
          go_ret
          exact ⟨by rw [HV.out]; rfl, (HN2.out).hb⟩
        | false =>
          have HV := Aside0.mk (HVT'.out ((HS.out).1 (by have := of_decide_eq_false q8; omega)))
          go_region_held3 (fun w' => (w'.cell? ⟨b, 0, none⟩ = some (.int .i64 x.f0) ∧ w'.cell? ⟨b, 1, none⟩ = some (.int .i64 x.f1)) ∧ (w'.cell? (ad.add (i * 2)) = some (.int .i64 y.f0) ∧ w'.cell? ⟨(ad.add (i * 2)).block, (ad.add (i * 2)).off + 1, none⟩ = some (.int .i64 y.f1)))
            (first | exact ⟨(HN2.out).cells, pw_cell_below HB2.out hk', pw_cell_below HB2.out hkb'⟩ | exact ⟨(HN0.out).cells, hk', hkb'⟩ | exact ⟨(HN.out).cells, hk, hkb⟩ | fail)
            (first | (go_at_call 114; (with_reducible refine (HBE.out _).mono ?_); rintro E w2 ⟨rfl, hb⟩; have HN2 := Aside0.mk ((HN0.out).below hb); have HB2 := Aside0.mk hb; clear hb) | fail)
          go_wp2
          go_roundg (l.length - (i + 1 + 1))
          case measure => have := HLT.out; omega
          case rel => exact ⟨i + 1 + 1, HLT.out, Nat.le_refl _, by first | rw [HKZ.out] | exact congrArg (Value.int .i64) HKZ.out, ⟨(HN2.out).hb⟩, HV⟩
    · obtain rfl : j = l.length := by omega
      have HV := Aside0.mk (altB_true HP.out)
      clear HP hlt hj hgg
      go_wp2
      go_ret
      exact ⟨by rw [HV.out]; rfl, HB.out⟩
end Go.Proofs.YtbmcigakiibncaaGreatDoor.H
namespace Go.Proofs.YtbmcigakiibncaaGreatDoor.H
open Go.RowKit Go.Proofs.YtbmcigakiibncaaGreatDoorW.PrintWords Go.Proofs.YtbmcigakiibncaaGreatDoorW.PrintLast Go.Proofs.YtbmcigakiibncaaGreatDoorW.PrintMore
set_option linter.unusedVariables false
set_option linter.unusedSimpArgs false
theorem rcompare_calls (A : Option Addr) (c : Nat) (a : List Nd) (B : Option Addr) (d : Nat) (b : List Nd) (w : World) (hA : Kd.C Q.k83 w A a.length a) (hc : a.length ≤ c) (hB : Kd.C Q.k83 w B b.length b) (hd : b.length ≤ d) :
    Calls Tryz.prog 94 #[.slice A a.length c, .slice B b.length d] w fun e w' => e = .returned (.int .i64 (sgI (cmpL a b))) ∧ Below w.heap.size w w' := by
  obtain ⟨k, hk⟩ := (compareF_ev a b hA.2.1).rounds
  exact Q.virgationref09_Compare.calls k A c a B d b _ w hA hc hB hd hk
theorem ranksR_calls (A : Option Addr) (c : Nat) (l : List Int) (w : World) (hr : Kd.C (Kd.int .i64) w A l.length l) (hc : l.length ≤ c) : Calls Tryz.prog 46 #[.slice A l.length c] w fun e w' => e = .returned (.bool (ranksB l)) ∧ Below w.heap.size w w' := by
  obtain ⟨k, hk⟩ := (ranks6_ev l hr.2.1).rounds
  exact (Q.virgationref06_Ranks.calls k A c l _ w hr hc hk).mono fun e w' h => ⟨h.1, by first | exact h.2 | exact h.2.below⟩
theorem altsB_false {r n : Int} {l : List (List Nd)} {j : Nat} (hj : j < l.length) (h : altLAt l r n j = false) : altsB r n l = false := by
  cases e : altsB r n l with
  | false => rfl
  | true =>
    unfold altsB at e
    rw [Bool.and_eq_true, allF_iff] at e
    rw [e.2 j (Nat.zero_le _) (by omega)] at h; cases h
theorem altsB_true {r n : Int} {l : List (List Nd)} (hl : l.length ≤ 12) (h : ∀ i, i < l.length → altLAt l r n i = true) : altsB r n l = true := by
  unfold altsB
  rw [Bool.and_eq_true, allF_iff]
  exact ⟨decide_eq_true hl, fun i _ hi => h i (by omega)⟩
theorem altLAt_bad {l : List (List Nd)} {r n : Int} {j : Nat} (h : altB r n (l.getD j []) = false) : altLAt l r n j = false := by unfold altLAt; rw [h]; rfl
theorem altLAt_zero {l : List (List Nd)} {r n : Int} (h : altB r n (l.getD 0 []) = true) : altLAt l r n 0 = true := by unfold altLAt; rw [h]; rfl
theorem altLAt_succ {l : List (List Nd)} {r n : Int} {i : Nat} (h : altB r n (l.getD (i + 1) []) = true) : altLAt l r n (i + 1) = decide (cmpL (l.getD i []) (l.getD (i + 1) []) < 0) := by unfold altLAt; rw [h]; simp
set_option maxHeartbeats 8000000 in
set_option maxRecDepth 100000 in
theorem altsR_calls (A : Option Addr) (c : Nat) (l : List (List Nd)) (r n : Int) (w : World) (hr : Kd.C kA1 w A l.length l) :
    Calls Tryz.prog 47 #[.slice A l.length c, .int .i64 r, .int .i64 n] w fun e w' => e = .returned (.bool (altsB r n l)) ∧ Below w.heap.size w w' := by
  have HR := Aside0.mk hr
  clear hr
  cases q : decide ((l.length : Int) > 12) with
  | true =>
    have HV := Aside0.mk (show altsB r n l = false by have := of_decide_eq_true q; unfold altsB; rw [decide_eq_false (by omega)]; rfl)
    go_enter Tryz.func47, Tryz.ntmps47
    go_wp2
    go_ret
    exact ⟨by rw [HV.out]; rfl, Below.refl _ _⟩
  | false =>
  have HL := Aside0.mk (show l.length ≤ 12 by have := of_decide_eq_false q; omega)
  go_enter Tryz.func47, Tryz.ntmps47
  go_wp2
  clear q
  go_loopg [14] l.length (fun gg v14 wi => ∃ j : Nat, j ≤ l.length ∧ l.length - j ≤ gg ∧ v14 = .int .i64 j ∧ Aside0 (Below w.heap.size w wi) ∧ Aside0 (∀ i, i < j → altLAt l r n i = true))
  case atStart => exact ⟨0, Nat.zero_le _, Nat.le_refl _, rfl, ⟨Below.refl _ _⟩, ⟨fun i hi => absurd hi (Nat.not_lt_zero _)⟩⟩
  case round =>
    obtain ⟨j, hj, hgg, rfl, HB, HP⟩ := hrel
    by_cases hlt : j < l.length
    · have hltz : (j : Int) < (l.length : Int) := by omega
      have HLT := Aside0.mk hlt
      have HKZ := Aside0.mk (show wrap64 ((j : Int) + 1) = ((j + 1 : Nat) : Int) by rw [wr_id (by omega) (by have := HL.out; omega)]; rfl)
      obtain ⟨ad, A1, c1, e, hk, hl1, hC1⟩ := at_sl HR.out j hlt
      subst e
      replace hk := pw_cell_below HB.out hk
      have HF := Aside0.mk (show altB r n (l.getD j []) = false → altsB r n l = false from fun h => altsB_false hlt (altLAt_bad h))
      have HZ := Aside0.mk (show j = 0 → altB r n (l.getD j []) = true → ∀ i, i < j + 1 → altLAt l r n i = true from fun h0 hnb i hi => by subst h0; rw [show i = 0 by omega]; exact altLAt_zero hnb)
      have HVF := Aside0.mk (show ∀ i, j = i + 1 → altB r n (l.getD j []) = true → ¬ cmpL (l.getD i []) (l.getD j []) < 0 → altsB r n l = false from fun i e hnb h => altsB_false hlt (by subst e; rw [altLAt_succ hnb]; exact decide_eq_false h))
      have HVT := Aside0.mk (show ∀ i, j = i + 1 → altB r n (l.getD j []) = true → cmpL (l.getD i []) (l.getD j []) < 0 → ∀ i', i' < j + 1 → altLAt l r n i' = true from fun i e hnb h i' hi' => by
          rcases Nat.lt_or_ge i' j with h2 | h2
          · exact HP.out i' h2
          · rw [show i' = j by omega]; subst e; rw [altLAt_succ hnb]; exact decide_eq_true h)
      have HC1 := Aside0.mk hC1
      have HL1 := Aside0.mk hl1
      clear HP hC1 hl1
      generalize l.getD j [] = x at *
      have HAL := Aside0.mk (altR_calls A1 c1 x r n wr (Kd.C_below (HC1.out) HB.out))
      go_wp2_with fail
      refine (HAL.out).mono ?_
      rintro E W2 ⟨rfl, hb⟩
      have HB2 := Aside0.mk (below_then HB.out (HB.out).size hb)
      clear hb hk HAL
      cases q1 : altB r n x with
      | false =>
        have HV := Aside0.mk (HF.out q1)
        clear q1
        go_wp2
        go_ret
        exact ⟨by rw [HV.out]; rfl, HB2.out⟩
      | true =>
      cases j with
      | zero =>
        have HT := Aside0.mk (HZ.out rfl q1)
        have q5 : decide (((0 : Nat) : Int) > 0) = false := by decide
        clear q1
        go_wp2
        go_roundg (l.length - (0 + 1))
        case measure => have := HLT.out; omega
        case rel => exact ⟨0 + 1, HLT.out, Nat.le_refl _, by first | rw [HKZ.out] | rfl, HB2, HT⟩
      | succ i =>
        obtain ⟨ad', A2, c2, e, hk, hl2, hC2⟩ := at_sl HR.out i (by omega)
        cases e
        replace hk := pw_cell_below (HB2.out) hk
        have HVF' := Aside0.mk (HVF.out i rfl q1)
        have HVT' := Aside0.mk (HVT.out i rfl q1)
        clear HF HVF HVT HZ q1
        generalize l.getD i [] = y at *
        have HBE := Aside0.mk (rcompare_calls A2 c2 y A1 c1 x W2 (Kd.C_below hC2 HB2.out) hl2 (Kd.C_below HC1.out HB2.out) HL1.out)
        generalize cmpL y x = v at *
        have HS := Aside0.mk (sgI_neg v)
        generalize sgI v = sv at *
        have q5 : decide (((i + 1 : Nat) : Int) > 0) = true := decide_eq_true (by omega)
        have q6 : wrap64 (((i + 1 : Nat) : Int) - 1) = (i : Int) := wrap_pred (by have := HL.out; have := HLT.out; omega)
        have q7 : (i : Int) < (l.length : Int) := by omega
        have q9 : (0 : Int) ≤ (i : Int) := by omega
        have q10 : wrap64 (i : Int) = (i : Int) := wr_id (by omega) (by have := HL.out; have := HLT.out; omega)
        have hwj : IntKind.i64.wrap (i : Int) = (i : Int) := by rw [i64_w]; exact q10
        go_wp2_with fail
        refine (HBE.out).mono ?_
        rintro E W3 ⟨rfl, hb⟩
        have HB3 := Aside0.mk (below_then HB2.out (HB2.out).size hb)
        clear hb hk
        cases q8 : decide (sv ≥ 0) with
        | true =>
          have HV := Aside0.mk (HVF'.out (by have h0 := HS.out; have h1 := of_decide_eq_true q8; have h2 : ¬ v < 0 := fun h => by { have := h0.2 h; omega }; omega))
          go_wp2
          go_ret
          exact ⟨by rw [HV.out]; rfl, (HB3.out)⟩
        | false =>
          have HV := Aside0.mk (HVT'.out ((HS.out).1 (by have := of_decide_eq_false q8; omega)))
          go_wp2
          go_roundg (l.length - (i + 1 + 1))
          case measure => have := HLT.out; omega
          case rel => exact ⟨i + 1 + 1, HLT.out, Nat.le_refl _, by first | rw [HKZ.out] | exact congrArg (Value.int .i64) HKZ.out, HB3, HV⟩
    · obtain rfl : j = l.length := by omega
      have HV := Aside0.mk (altsB_true HL.out HP.out)
      clear HP hlt hj hgg
      go_wp2
      go_ret
      exact ⟨by rw [HV.out]; rfl, HB.out⟩
theorem isR_unfold {rk : List Int} {st : Int} {M : Mv} : isR rk st M = (ranksB rk && decide (1 ≤ M.length) && decide (M.length ≤ 6) && decide (0 ≤ st) && decide (st < (M.length : Int)) && allF (fun q => rowR rk (M.length : Int) (M.getD q [])) 0 M.length) := rfl
theorem isR_row {rk : List Int} {st : Int} {M : Mv} {q : Nat} (hq : q < M.length) (h : rowR rk (M.length : Int) (M.getD q []) = false) : isR rk st M = false := by
  cases e : isR rk st M with
  | false => rfl
  | true =>
    rw [isR_unfold, Bool.and_eq_true, allF_iff] at e
    rw [e.2 q (Nat.zero_le _) (by omega)] at h; cases h
theorem rowR_len {rk : List Int} {n : Int} {row : List (List (List Nd))} (h : row.length ≠ rk.length) : rowR rk n row = false := by unfold rowR; rw [decide_eq_false h]; rfl
theorem rowR_at {rk : List Int} {n : Int} {row : List (List (List Nd))} {f : Nat} (hf : f < row.length) (h : altsB (rk.getD f 0) n (row.getD f []) = false) : rowR rk n row = false := by
  cases e : rowR rk n row with
  | false => rfl
  | true =>
    unfold rowR at e
    rw [Bool.and_eq_true, allF_iff] at e
    have := e.2 f (Nat.zero_le _) (by omega)
    rw [show rd rk (f : Int) = rk.getD f 0 by simp [rd], h] at this; cases this
theorem rowR_true {rk : List Int} {n : Int} {row : List (List (List Nd))} (hl : row.length = rk.length) (h : ∀ f, f < row.length → altsB (rk.getD f 0) n (row.getD f []) = true) : rowR rk n row = true := by
  unfold rowR
  rw [decide_eq_true hl, Bool.true_and, allF_iff]
  intro f _ hf
  rw [show rd rk (f : Int) = rk.getD f 0 by simp [rd]]
  exact h f (by omega)
set_option maxHeartbeats 8000000 in
set_option maxRecDepth 100000 in
theorem isA_calls (rk : List Int) (M : Mv) (st : Int) (A1 : Option Addr) (c1 : Nat) (A2 : Option Addr) (c2 : Nat) (w : World)
    (hr : Kd.C (Kd.int .i64) w A1 rk.length rk) (hc1 : rk.length ≤ c1) (hM : Kd.C kA3 w A2 M.length M) (hc2 : M.length ≤ c2) :
    Calls Tryz.prog 19 #[.agg #[.slice A1 rk.length c1, .int .i64 st, .slice A2 M.length c2]] w fun e w' => e = .returned (.bool (auB rk st M)) ∧ Below w.heap.size w w' := by
  rw [← isR_eq]
  have HR := Aside0.mk hr
  have HM := Aside0.mk hM
  have HRK := Aside0.mk fun W (hW : Below w.heap.size w W) => ranksR_calls A1 c1 rk W (Kd.C_below hr hW) hc1
  have HS := Aside0.mk (TX.mk (below_alloc (Below.refl w.heap.size w) (.cells #[.slice A1 rk.length c1, .int .i64 st, .slice A2 M.length c2] 25)) (blk_new w (.cells #[.slice A1 rk.length c1, .int .i64 st, .slice A2 M.length c2] 25)))
  clear hr hc1 hM hc2
  go_enter Tryz.func19, Tryz.ntmps19
  go_upto_region 1 with (fail)
  generalize w.alloc (.cells #[.slice A1 rk.length c1, .int .i64 st, .slice A2 M.length c2] 25) = W1 at *
  have k0 : W1.cell? ⟨w.heap.size, 0, none⟩ = some (.slice A1 rk.length c1) := (blk_cell (HS.out).box 0).trans rfl
  have k2 : W1.cell? ⟨w.heap.size, 2, none⟩ = some (.slice A2 M.length c2) := (blk_cell (HS.out).box 2).trans rfl
  go_wp2_with fail
  refine (HRK.out _ (HS.out).hb).mono ?_
  rintro E W2 ⟨rfl, hb⟩
  have HS2 := Aside0.mk ((HS.out).below hb)
  clear hb HS HRK k0 k2
  have k0 : W2.cell? ⟨w.heap.size, 0, none⟩ = some (.slice A1 rk.length c1) := (blk_cell (HS2.out).box 0).trans rfl
  have k1 : W2.cell? ⟨w.heap.size, 1, none⟩ = some (.int .i64 st) := (blk_cell (HS2.out).box 1).trans rfl
  have k2 : W2.cell? ⟨w.heap.size, 2, none⟩ = some (.slice A2 M.length c2) := (blk_cell (HS2.out).box 2).trans rfl
  cases q0 : ranksB rk with
  | false =>
    have HV := Aside0.mk (show isR rk st M = false by rw [isR_unfold, q0]; rfl)
    clear q0
    go_wp2
    go_ret
    exact ⟨by rw [HV.out]; rfl, (HS2.out).hb⟩
  | true =>
  have HR0 := Aside0.mk q0
  clear q0
  cases q1 : decide ((M.length : Int) < 1) with
  | true =>
    have HV := Aside0.mk (show isR rk st M = false by have := of_decide_eq_true q1; rw [isR_unfold, decide_eq_false (show ¬ 1 ≤ M.length by omega)]; simp)
    go_wp2
    go_ret
    exact ⟨by rw [HV.out]; rfl, (HS2.out).hb⟩
  | false =>
  cases q2 : decide ((M.length : Int) > 6) with
  | true =>
    have HV := Aside0.mk (show isR rk st M = false by have := of_decide_eq_true q2; rw [isR_unfold, decide_eq_false (show ¬ M.length ≤ 6 by omega)]; simp)
    go_wp2
    go_ret
    exact ⟨by rw [HV.out]; rfl, (HS2.out).hb⟩
  | false =>
  cases q3 : decide (st < 0) with
  | true =>
    have HV := Aside0.mk (show isR rk st M = false by have := of_decide_eq_true q3; rw [isR_unfold, decide_eq_false (show ¬ 0 ≤ st by omega)]; simp)
    go_wp2
    go_ret
    exact ⟨by rw [HV.out]; rfl, (HS2.out).hb⟩
  | false =>
  cases q4 : decide (st ≥ (M.length : Int)) with
  | true =>
    have HV := Aside0.mk (show isR rk st M = false by have := of_decide_eq_true q4; rw [isR_unfold, decide_eq_false (show ¬ st < (M.length : Int) by omega)]; simp)
    go_wp2
    go_ret
    exact ⟨by rw [HV.out]; rfl, (HS2.out).hb⟩
  | false =>
  have HN := Aside0.mk (show 1 ≤ M.length ∧ M.length ≤ 6 ∧ 0 ≤ st ∧ st < (M.length : Int) from by have := of_decide_eq_false q1; have := of_decide_eq_false q2; have := of_decide_eq_false q3; have := of_decide_eq_false q4; omega)
  have HRL := Aside0.mk (show rk.length ≤ 24 from by
    have h := HR0.out
    unfold ranksB at h
    simp only [Bool.and_eq_true, decide_eq_true_eq] at h
    omega)
  have HVT := Aside0.mk (show (∀ q, q < M.length → rowR rk (M.length : Int) (M.getD q []) = true) → isR rk st M = true from fun h => by
    obtain ⟨h1, h2, h3, h4⟩ := HN.out
    rw [isR_unfold, HR0.out, decide_eq_true h1, decide_eq_true h2, decide_eq_true h3, decide_eq_true h4, Bool.true_and, Bool.true_and, Bool.true_and, Bool.true_and, Bool.true_and, allF_iff]
    exact fun q _ hq => h q (by omega))
  have HVF := Aside0.mk (show ∀ q, q < M.length → rowR rk (M.length : Int) (M.getD q []) = false → isR rk st M = false from fun q hq h => isR_row hq h)
  go_wp2
  clear k0 k1 k2 q1 q2 q3 q4
  go_loopg [37] M.length (fun gg v37 wi => ∃ q : Nat, q ≤ M.length ∧ M.length - q ≤ gg ∧ v37 = .int .i64 q ∧ Aside0 (TX w (.slice A1 rk.length c1) (.int .i64 st) (.slice A2 M.length c2) wi) ∧ Aside0 (∀ i, i < q → rowR rk (M.length : Int) (M.getD i []) = true))
  case atStart => exact ⟨0, Nat.zero_le _, Nat.le_refl _, rfl, HS2, ⟨fun i hi => absurd hi (Nat.not_lt_zero _)⟩⟩
  case round =>
    clear HS2
    obtain ⟨q, hq, hgg, rfl, HS, HP⟩ := hrel
    by_cases hlt : q < M.length
    · have hltz : (q : Int) < (M.length : Int) := by omega
      have HLT := Aside0.mk hlt
      have HKQ := Aside0.mk (show wrap64 ((q : Int) + 1) = ((q + 1 : Nat) : Int) by rw [wr_id (by omega) (by have := HN.out; omega)]; rfl)
      obtain ⟨ad, A3, c3, e, hk, hl3, hC3⟩ := at_sl HM.out q hlt
      subst e
      replace hk := pw_cell_below (HS.out).hb hk
      have HF := Aside0.mk (HVF.out q hlt)
      have HT := Aside0.mk (show rowR rk (M.length : Int) (M.getD q []) = true → ∀ i, i < q + 1 → rowR rk (M.length : Int) (M.getD i []) = true from fun h i hi => by
        rcases Nat.lt_or_ge i q with h2 | h2
        · exact HP.out i h2
        · rw [show i = q by omega]; exact h)
      have HC3 := Aside0.mk hC3
      have k0 : wr.cell? ⟨w.heap.size, 0, none⟩ = some (.slice A1 rk.length c1) := (blk_cell (HS.out).box 0).trans rfl
      clear hC3 hl3 HP hlt hq
      generalize M.getD q [] = row at *
      cases q5 : ((row.length : Int) != (rk.length : Int)) with
      | true =>
        have HV := Aside0.mk (HF.out (rowR_len (by have : ¬ (row.length : Int) = (rk.length : Int) := by simpa using q5
                                                   omega)))
        go_wp2
        go_ret
        exact ⟨by rw [HV.out]; rfl, (HS.out).hb⟩
      | false =>
      have HRW := Aside0.mk (show row.length = rk.length by have : (row.length : Int) = (rk.length : Int) := by simpa using q5
                                                            omega)
      go_wp2
      clear hk k0 q5 hltz
      go_loopg [49] row.length (fun gg v49 wi => ∃ f : Nat, f ≤ row.length ∧ row.length - f ≤ gg ∧ v49 = .int .i64 f ∧ Aside0 (TX w (.slice A1 rk.length c1) (.int .i64 st) (.slice (some ad) M.length c2) wi) ∧ Aside0 (∀ i, i < f → altsB (rk.getD i 0) (M.length : Int) (row.getD i []) = true))
      case atStart => exact ⟨0, Nat.zero_le _, Nat.le_refl _, rfl, HS, ⟨fun i hi => absurd hi (Nat.not_lt_zero _)⟩⟩
      case round =>
        clear HS
        obtain ⟨f, hf, hgg, rfl, HS, HP⟩ := hrel
        by_cases hlt : f < row.length
        · have hltz : (f : Int) < (row.length : Int) := by omega
          have hltr : (f : Int) < (rk.length : Int) := by have := HRW.out; omega
          have HLF := Aside0.mk hlt
          have HKF := Aside0.mk (show wrap64 ((f : Int) + 1) = ((f + 1 : Nat) : Int) by rw [wr_id (by omega) (by have := HRW.out; have := HRL.out; omega)]; rfl)
          obtain ⟨ad4, A4, c4, e, hk, hl4, hC4⟩ := at_sl HC3.out f hlt
          subst e
          obtain ⟨ad5, e, hk5⟩ := at_int HR.out f (by have := HRW.out; omega)
          subst e
          replace hk := pw_cell_below (HS.out).hb hk
          replace hk5 := pw_cell_below (HS.out).hb hk5
          have HF4 := Aside0.mk (show altsB (rk.getD f 0) (M.length : Int) (row.getD f []) = false → isR rk st M = false from fun h => HF.out (rowR_at hlt h))
          have HT4 := Aside0.mk (show altsB (rk.getD f 0) (M.length : Int) (row.getD f []) = true → ∀ i, i < f + 1 → altsB (rk.getD i 0) (M.length : Int) (row.getD i []) = true from fun h i hi => by
            rcases Nat.lt_or_ge i f with h2 | h2
            · exact HP.out i h2
            · rw [show i = f by omega]; exact h)
          have HC4 := Aside0.mk hC4
          have k0 : wr.cell? ⟨w.heap.size, 0, none⟩ = some (.slice (some ad5) rk.length c1) := (blk_cell (HS.out).box 0).trans rfl
          clear hC4 hl4 HP hlt hf
          generalize row.getD f [] = al at *
          generalize rk.getD f 0 = r at *
          have HAL := Aside0.mk (altsR_calls A4 c4 al r (M.length : Int) wr (Kd.C_below (HC4.out) (HS.out).hb))
          go_wp2_with fail
          refine (HAL.out).mono ?_
          rintro E W2 ⟨rfl, hb⟩
          have HS2 := Aside0.mk ((HS.out).below hb)
          clear hb hk hk5 k0 HAL HS
          cases q1 : altsB r (M.length : Int) al with
          | false =>
            have HV := Aside0.mk (HF4.out q1)
            clear q1
            go_wp2
            go_ret
            exact ⟨by rw [HV.out]; rfl, (HS2.out).hb⟩
          | true =>
            have HT5 := Aside0.mk (HT4.out q1)
            clear q1
            go_wp2
            go_roundg (row.length - (f + 1))
            case measure => have := HLF.out; omega
            case rel => exact ⟨f + 1, HLF.out, Nat.le_refl _, by rw [HKF.out], HS2, HT5⟩
        · obtain rfl : f = row.length := by omega
          have HT6 := Aside0.mk (HT.out (rowR_true HRW.out HP.out))
          clear HP hlt hf hgg
          go_wp2
          go_roundg (M.length - (q + 1))
          case measure => have := HLT.out; omega
          case rel => exact ⟨q + 1, HLT.out, Nat.le_refl _, by rw [HKQ.out], HS, HT6⟩
    · obtain rfl : q = M.length := by omega
      have HV := Aside0.mk (HVT.out HP.out)
      clear HP hlt hq hgg
      go_wp2
      go_ret
      exact ⟨by rw [HV.out]; rfl, (HS.out).hb⟩
end Go.Proofs.YtbmcigakiibncaaGreatDoor.H
namespace Go.Proofs.YtbmcigakiibncaaGreatDoor.H
open Go.RowKit Go.Proofs.YtbmcigakiibncaaGreatDoorW.PrintWords Go.Proofs.YtbmcigakiibncaaGreatDoorW.PrintLast Go.Proofs.YtbmcigakiibncaaGreatDoorW.PrintMore
set_option linter.unusedVariables false
def lo (x : Nat) : Nat := Lib.ctz 64 x
theorem lo_spec {x : Nat} (h0 : x ≠ 0) (h : x < 16777216) : ∃ m, x = 2 ^ lo x * (2 * m + 1) ∧ lo x < 24 := by
  obtain ⟨m, hm, _⟩ := Lib.ctzFrom_spec 64 x (by omega) (by omega)
  have e : lo x = Lib.ctzFrom 64 x := by unfold lo Lib.ctz; rw [if_neg h0]
  refine ⟨m, by rw [e]; exact hm, ?_⟩
  apply Nat.lt_of_not_le
  intro hle
  have h1 : 2 ^ 24 ≤ 2 ^ lo x := Nat.pow_le_pow_right (by decide) hle
  have h2 : 2 ^ lo x ≤ 2 ^ lo x * (2 * m + 1) := Nat.le_mul_of_pos_right _ (by omega)
  rw [e] at h1 h2
  rw [← hm] at h2
  omega
theorem bit_at {k m i : Nat} : (2 ^ k * (2 * m + 1)).testBit i = (decide (k ≤ i) && (2 * m + 1).testBit (i - k)) := by
  rw [Nat.mul_comm, Nat.testBit_mul_two_pow]
theorem lo_bits {x : Nat} (h0 : x ≠ 0) (h : x < 16777216) : x.testBit (lo x) = true ∧ (∀ i, i < lo x → x.testBit i = false) ∧ lo x < 24 := by
  obtain ⟨m, hm, hk⟩ := lo_spec h0 h
  generalize lo x = k at *
  subst hm
  refine ⟨?_, fun i hi => ?_, hk⟩
  · rw [bit_at]; simp
  · rw [bit_at, decide_eq_false (by omega)]; rfl
theorem drop_bit {x : Nat} (h0 : x ≠ 0) (h : x < 16777216) (i : Nat) : (x &&& (x - 1)).testBit i = (x.testBit i && decide (i ≠ lo x)) := by
  obtain ⟨m, hm, hk⟩ := lo_spec h0 h
  generalize lo x = k at *
  subst hm
  have e : 2 ^ k * (2 * m + 1) - 1 = 2 ^ k * (2 * m) + (2 ^ k - 1) := by
    have : 0 < 2 ^ k := Nat.pos_of_ne_zero (by simp)
    rw [Nat.mul_add, Nat.mul_one]; omega
  have hlt : 2 ^ k - 1 < 2 ^ k := by have : 0 < 2 ^ k := Nat.pos_of_ne_zero (by simp); omega
  rw [Nat.testBit_and, e, Nat.testBit_two_pow_mul_add _ hlt, bit_at]
  by_cases h1 : k ≤ i
  · rw [decide_eq_true h1, if_neg (by omega)]
    by_cases h2 : i = k
    · subst h2
      simp
    · obtain ⟨j, rfl⟩ : ∃ j, i = k + (j + 1) := ⟨i - k - 1, by omega⟩
      have e3 : k + (j + 1) - k = j + 1 := by omega
      rw [e3, Nat.testBit_succ, Nat.testBit_succ]
      have d1 : (2 * m + 1) / 2 = m := by omega
      have d2 : 2 * m / 2 = m := by omega
      rw [d1, d2, decide_eq_true h2]
      simp
  · rw [decide_eq_false h1]; simp
theorem drop_lt {x : Nat} (h0 : x ≠ 0) (h : x < 16777216) : x &&& (x - 1) < x := by
  have h1 : x &&& (x - 1) ≤ x - 1 := Nat.and_le_right
  omega
def bitsN (m : Nat) : List Nat := (List.range 24).filter fun i => m.testBit i
theorem range_cut {n k : Nat} (h : k < n) : List.range n = List.range k ++ k :: List.range' (k + 1) (n - k - 1) := by
  rw [List.range_eq_range', List.range_eq_range', show n = k + (n - k) by omega, ← List.range'_append_1]
  rw [show k + (n - k) - k - 1 = n - k - 1 by omega]
  congr 1
  rw [show n - k = (n - k - 1) + 1 by omega, List.range'_succ]
  simp
theorem filter_first {p q : Nat → Bool} {n k : Nat} (h : k < n) (h1 : ∀ i, i < k → p i = false) (h2 : p k = true) (h3 : ∀ i, q i = (p i && decide (i ≠ k))) : (List.range n).filter p = k :: (List.range n).filter q := by
  rw [range_cut h, List.filter_append, List.filter_append, List.filter_cons, List.filter_cons, h2, h3 k]
  have e1 : (List.range k).filter p = [] := List.filter_eq_nil_iff.2 fun i hi => by rw [h1 i (List.mem_range.1 hi)]; simp
  have e2 : (List.range k).filter q = [] := List.filter_eq_nil_iff.2 fun i hi => by rw [h3, h1 i (List.mem_range.1 hi)]; simp
  have e3 : (List.range' (k + 1) (n - k - 1)).filter p = (List.range' (k + 1) (n - k - 1)).filter q := List.filter_congr fun i hi => by
    have := (List.mem_range'_1.1 hi).1
    rw [h3, decide_eq_true (show i ≠ k by omega), Bool.and_true]
  rw [e1, e2, e3]
  simp
theorem bitsN_step {x : Nat} (h0 : x ≠ 0) (h : x < 16777216) : bitsN x = lo x :: bitsN (x &&& (x - 1)) := by
  obtain ⟨h1, h2, h3⟩ := lo_bits h0 h
  exact filter_first h3 h2 h1 (fun i => drop_bit h0 h i)
theorem bitsN_len (m : Nat) : (bitsN m).length ≤ 24 := by
  unfold bitsN
  exact Nat.le_trans (List.length_filter_le _ _) (by simp)
theorem bitsN_zero : bitsN 0 = [] := by unfold bitsN; simp
theorem i64_and {a b : Nat} (ha : a < 4611686018427387904) (hb : b < 4611686018427387904) : bits .and .i64 (a : Int) (b : Int) = ((a &&& b : Nat) : Int) := by
  have hx : a &&& b < 2 ^ 62 := Nat.and_lt_two_pow _ (by omega)
  show IntKind.i64.wrap ((BitVec.ofInt 64 (a : Int) &&& BitVec.ofInt 64 (b : Int)).toNat : Int) = _
  rw [BitVec.toNat_and, ofInt_u64 a (by omega), ofInt_u64 b (by omega), IntKind.wrap_i64]
  omega
theorem i64_or {a b : Nat} (ha : a < 4611686018427387904) (hb : b < 4611686018427387904) : bits .or .i64 (a : Int) (b : Int) = ((a ||| b : Nat) : Int) := by
  have hx : a ||| b < 2 ^ 62 := Nat.or_lt_two_pow (by omega) (by omega)
  show IntKind.i64.wrap ((BitVec.ofInt 64 (a : Int) ||| BitVec.ofInt 64 (b : Int)).toNat : Int) = _
  rw [BitVec.toNat_or, ofInt_u64 a (by omega), ofInt_u64 b (by omega), IntKind.wrap_i64]
  omega
theorem i64_andNot {a b : Nat} (ha : a < 4611686018427387904) (hb : b < 4611686018427387904) : bits .andNot .i64 (a : Int) (b : Int) = ((a &&& (18446744073709551615 - b) : Nat) : Int) := by
  have hx : a &&& (18446744073709551615 - b) ≤ a := Nat.and_le_left
  show IntKind.i64.wrap ((BitVec.ofInt 64 (a : Int) &&& ~~~BitVec.ofInt 64 (b : Int)).toNat : Int) = _
  rw [BitVec.toNat_and, BitVec.toNat_not, ofInt_u64 a (by omega), ofInt_u64 b (by omega), IntKind.wrap_i64]
  have e : 2 ^ 64 - 1 - b = 18446744073709551615 - b := by omega
  rw [e]
  omega
theorem ofInt_neg (x : Nat) (h0 : x ≠ 0) (h : x < 4611686018427387904) : (BitVec.ofInt 64 (-(x : Int))).toNat = 18446744073709551616 - x := by
  rw [BitVec.toNat_ofInt]
  omega
theorem low_nat {x : Nat} (h0 : x ≠ 0) (h : x < 16777216) : x &&& (18446744073709551616 - x) = 2 ^ lo x := (Lib.lowest_bit 64 x h0 (by omega)).1
theorem lo_pow {x : Nat} (h0 : x ≠ 0) (h : x < 16777216) : 2 ^ lo x < 16777216 ∧ 0 < 2 ^ lo x := by
  have := (lo_bits h0 h).2.2
  exact ⟨Nat.lt_of_lt_of_le (Nat.pow_lt_pow_right (by decide) this) (by decide), Nat.pos_of_ne_zero (by simp)⟩
theorem i64_low {x : Nat} (h0 : x ≠ 0) (h : x < 16777216) : bits .and .i64 (x : Int) (-(x : Int)) = ((2 ^ lo x : Nat) : Int) := by
  have hp := lo_pow h0 h
  show IntKind.i64.wrap ((BitVec.ofInt 64 (x : Int) &&& BitVec.ofInt 64 (-(x : Int))).toNat : Int) = _
  rw [BitVec.toNat_and, ofInt_u64 x (by omega), ofInt_neg x h0 (by omega), low_nat h0 h, IntKind.wrap_i64]
  generalize 2 ^ lo x = p at *
  omega
theorem u64_low {x : Nat} (h0 : x ≠ 0) (h : x < 16777216) : bits .and .u64 (x : Int) (IntKind.u64.wrap (-(x : Int))) = ((2 ^ lo x : Nat) : Int) := by
  have e : IntKind.u64.wrap (-(x : Int)) = ((18446744073709551616 - x : Nat) : Int) := by rw [IntKind.wrap_u64]; omega
  rw [e, u64_and_nat x _ (by omega) (by omega), low_nat h0 h]
theorem i64_drop {x : Nat} (h0 : x ≠ 0) (h : x < 16777216) : bits .and .i64 (x : Int) ((x : Int) - 1) = ((x &&& (x - 1) : Nat) : Int) := by
  rw [show ((x : Int) - 1) = ((x - 1 : Nat) : Int) by omega]
  exact i64_and (by omega) (by omega)
theorem u64_drop {x : Nat} (h0 : x ≠ 0) (h : x < 16777216) : bits .and .u64 (x : Int) ((x : Int) - 1) = ((x &&& (x - 1) : Nat) : Int) := by
  rw [show ((x : Int) - 1) = ((x - 1 : Nat) : Int) by omega]
  exact u64_and_nat _ _ (by omega) (by omega)
end Go.Proofs.YtbmcigakiibncaaGreatDoor.H
namespace Go.Proofs.YtbmcigakiibncaaGreatDoor.H
open Go.RowKit Go.Proofs.YtbmcigakiibncaaGreatDoorW.PrintWords Go.Proofs.YtbmcigakiibncaaGreatDoorW.PrintLast Go.Proofs.YtbmcigakiibncaaGreatDoorW.PrintMore
set_option linter.unusedVariables false
def TabD (w : World) : Prop := ∀ k, k < 64 → w.cell? ⟨1, k, none⟩ = some (.int .u8 ((Lib.deBruijn64tab.getD k 0 : Nat) : Int))
theorem TabD.below {w w1 : World} (h : TabD w) (hb : Below w.heap.size w w1) : TabD w1 := fun k hk => pw_cell_below hb (h k hk)
theorem TabD.tab {w : World} (h : TabD w) : Tab w := ⟨h 0 (by decide), h 1 (by decide), h 3 (by decide), h 7 (by decide), h 15 (by decide), h 31 (by decide)⟩
theorem tzAt_wide {x : Nat} (h0 : x ≠ 0) (h : x < 16777216) : tzAt (x : Int) = ((2 ^ lo x * 285870213051353865 % 18446744073709551616 / 288230376151711744 : Nat) : Int) := by
  unfold tzAt
  rw [u64_low h0 h, IntKind.wrap_u64]
  generalize 2 ^ lo x = p
  omega
theorem tab_at {x : Nat} (h0 : x ≠ 0) (h : x < 16777216) : ∃ k : Nat, tzAt (x : Int) = (k : Int) ∧ k < 64 ∧ Lib.deBruijn64tab.getD k 0 = lo x :=
  ⟨_, tzAt_wide h0 h, Lib.deBruijn64_at (lo x) (by have := (lo_bits h0 h).2.2; omega)⟩
theorem tz64W_calls (x : Nat) (h0 : x ≠ 0) (h1 : x < 16777216) (w : World) (h : TabD w) : Calls Tryz.prog 112 #[.int .u64 (x : Int)] w fun E w' => E = .returned (.int .i64 (lo x : Int)) ∧ w' = w := by
  obtain ⟨k, e, hd, ht⟩ := tab_at h0 h1
  have hl := (lo_bits h0 h1).2.2
  have hc := h _ hd
  rw [ht] at hc
  rw [show k = (tzAt (x : Int)).toNat by rw [e]; exact (Int.toNat_natCast k).symm] at hc
  have hb : 0 ≤ tzAt (x : Int) ∧ tzAt (x : Int) < 64 := by rw [e]; omega
  have hx : ¬ (x : Int) = 0 := by omega
  clear h h0 ht
  generalize lo x = l at *
  unfold tzAt at hc hb
  obtain ⟨hb0, hb1⟩ := hb
  clear e hd
  go_enter Tryz.func112, Tryz.ntmps112
  go_wp2
  go_ret
  exact ⟨rfl, rfl⟩
theorem tzW_calls (x : Nat) (h0 : x ≠ 0) (h1 : x < 16777216) (w : World) (h : TabD w) : Calls Tryz.prog 90 #[.int .u64 (x : Int)] w fun E w' => E = .returned (.int .i64 (lo x : Int)) ∧ w' = w := by
  have H := Aside0.mk (tz64W_calls x h0 h1 w h)
  clear h h0 h1
  go_enter Tryz.func90, Tryz.ntmps90
  go_wp2_with fail
  refine (H.out).mono ?_
  rintro E w2 ⟨rfl, rfl⟩
  go_wp2
  go_ret
  exact ⟨rfl, rfl⟩
def bitsI (m : Nat) : List Int := (bitsN m).map fun (i : Nat) => (i : Int)
theorem bitsI_step {x : Nat} (h0 : x ≠ 0) (h : x < 16777216) : bitsI x = (lo x : Int) :: bitsI (x &&& (x - 1)) := by unfold bitsI; rw [bitsN_step h0 h]; rfl
theorem bitsI_len (m : Nat) : (bitsI m).length ≤ 24 := by unfold bitsI; rw [List.length_map]; exact bitsN_len m
def ListW (m : Nat) (w : World) (E : Ending) (w' : World) : Prop := ∃ (A : Option Addr) (c : Nat), E = .returned (.slice A (bitsI m).length c) ∧ (bitsI m).length ≤ c ∧ Kd.C (Kd.int .i64) w' A (bitsI m).length (bitsI m) ∧ Below w.heap.size w w'
set_option maxHeartbeats 2000000 in
theorem listW_calls (m : Nat) (hm : m < 16777216) (w : World) (h : TabD w) : Calls Tryz.prog 41 #[.int .i64 (m : Int)] w (ListW m w) := by
  have HT := Aside0.mk h
  have HM := Aside0.mk hm
  clear h hm
  go_enter Tryz.func41, Tryz.ntmps41
  go_upto_region 3 with (fail)
  rw [u64_id (by omega) (by have := HM.out; omega)]
  go_loopg [3, 4] m (fun gg v3 v4 wi => ∃ (ys : List Int) (x : Nat) (So : Nat → Prop), x ≤ gg ∧ v4 = .int .u64 x ∧ x < 16777216 ∧ Aside0 (ys ++ bitsI x = bitsI m) ∧ Aside0 (Kd.R (Kd.int .i64) 3 wi w.heap.size So v3 ys) ∧ Aside0 (Below w.heap.size w wi))
  case atStart => exact ⟨[], m, fun _ => False, by omega, rfl, HM.out, ⟨by rw [List.nil_append]⟩, ⟨Kd.R_nil _ _ _ _ _⟩, ⟨Below.refl _ _⟩⟩
  case round =>
    obtain ⟨ys, x, So, hgg, rfl, hx, HE, HR, HB⟩ := hrel
    obtain ⟨A, c, rfl⟩ := Kd.R_slice HR.out
    by_cases h0 : x = 0
    · subst h0
      have hE := HE.out
      rw [show bitsI 0 = [] by unfold bitsI; rw [bitsN_zero]; rfl, List.append_nil] at hE
      subst hE
      have hr := Kd.R_reads' HR.out
      go_wp2
      go_ret
      exact ⟨A, c, rfl, hr.2.1, hr.2.2, (HB.out)⟩
    · have h0z : ¬ (x : Int) = 0 := by omega
      have e1 := bitsI_step h0 hx
      have e2 := u64_drop h0 hx
      have e3 := drop_lt h0 hx
      have HE1 := Aside0.mk (show (ys ++ [(lo x : Int)]) ++ bitsI (x &&& (x - 1)) = bitsI m by rw [List.append_assoc, List.singleton_append, ← e1]; exact HE.out)
      have HL1 := Aside0.mk (show ys.length ≤ 24 by have h1 := congrArg List.length HE.out; rw [List.length_append] at h1; have := bitsI_len m; omega)
      have HZ := Aside0.mk (tzW_calls x h0 hx wr ((HT.out).below HB.out))
      have HE2 := Aside0.mk e2
      clear e1 e2 HE h0
      go_wp2_with fail
      refine (HZ.out).mono ?_
      rintro E w2 ⟨rfl, rfl⟩
      generalize lo x = l at *
      go_wp2_with ((with_reducible refine gate_builtin (b := .append) (xs := #[.tmp 13, .tmp 16]) rfl ?_); at_builtin; refine Kd.R_append (Kd.int .i64) (w0 := w) w.heap.size rfl (.tmp 13) (.tmp 16) 22 3 (.int .i64 0) 8 rfl Tryz.underlying22 Q.info3 rfl (by decide) (by omega) (.slice A ys.length c) ys (l : Int) [.int .i64 (l : Int)] (fun k => So k ∨ w2.heap.size ≤ k) (fun _ => False) rfl rfl rfl (fun _ hk => hk.elim) (fun k hk => .inr hk) (Kd.R_mono HR.out (fun _ hk => .inl hk)) HB.out (HB.out).size (by have := HL1.out; omega) ?_; intro v5 w5 ho5 hb5 hg5 hat5; have HR5 := Aside0.mk ho5; have HB5 := Aside0.mk hb5; clear ho5 hb5 hg5 hat5)
      go_roundg (x &&& (x - 1))
      case measure => omega
      case rel => exact ⟨ys ++ [(l : Int)], x &&& (x - 1), _, Nat.le_refl _, by rw [HE2.out], by omega, HE1, HR5, HB5⟩
end Go.Proofs.YtbmcigakiibncaaGreatDoor.H
namespace Go.Proofs
open Go.Shelf
set_option linter.unusedVariables false
def Tryz.sortN_ren : Go.Shelf.Ren := ⟨fun | 6 => 97 | 15 => 119 | 14 => 118 | 28 => 141 | 29 => 142 | 20 => 133 | 21 => 134 | 22 => 135 | 23 => 136 | 24 => 137 | 25 => 138 | 26 => 139 | 27 => 140 | 46 => 164 | 47 => 165 | 48 => 166 | 49 => 167 | 50 => 168 | 57 => 182 | n => n, fun | 22 => 66 | 24 => 69 | 25 => 109 | 3 => 3 | 39 => 116 | 0 => 0 | 53 => 141 | 55 => 143 | 4 => 4 | 46 => 160 | 45 => 159 | 50 => 131 | 5 => 5 | 9 => 9 | 66 => 181 | 70 => 154 | 76 => 199 | 77 => 138 | n => n, fun | n => n⟩
theorem Tryz.sortN : Go.Proofs.SlLaysF.n6 Tryz.prog Tryz.sortN_ren := {
  mixed := by kernel_rfl
  f6 := ⟨Tryz.f97.name, by decide, Tryz.func97.trans (congrArg some (by kernel_rfl))⟩
  f14 := ⟨Tryz.f118.name, by decide, Tryz.func118.trans (congrArg some (by kernel_rfl))⟩
  f15 := Tryz.func119.trans (congrArg some (by kernel_rfl))
  f20 := ⟨Tryz.f133.name, by decide, Tryz.func133.trans (congrArg some (by kernel_rfl))⟩
  f21 := ⟨Tryz.f134.name, by decide, Tryz.func134.trans (congrArg some (by kernel_rfl))⟩
  f22 := ⟨Tryz.f135.name, by decide, Tryz.func135.trans (congrArg some (by kernel_rfl))⟩
  f23 := ⟨Tryz.f136.name, by decide, Tryz.func136.trans (congrArg some (by kernel_rfl))⟩
  f24 := ⟨Tryz.f137.name, by decide, Tryz.func137.trans (congrArg some (by kernel_rfl))⟩
  f25 := ⟨Tryz.f138.name, by decide, Tryz.func138.trans (congrArg some (by kernel_rfl))⟩
  f26 := ⟨Tryz.f139.name, by decide, Tryz.func139.trans (congrArg some (by kernel_rfl))⟩
  f27 := ⟨Tryz.f140.name, by decide, Tryz.func140.trans (congrArg some (by kernel_rfl))⟩
  f28 := Tryz.func141.trans (congrArg some (by kernel_rfl))
  f29 := Tryz.func142.trans (congrArg some (by kernel_rfl))
  f46 := ⟨Tryz.f164.name, by decide, Tryz.func164.trans (congrArg some (by kernel_rfl))⟩
  f47 := Tryz.func165.trans (congrArg some (by kernel_rfl))
  f48 := Tryz.func166.trans (congrArg some (by kernel_rfl))
  f49 := ⟨Tryz.f167.name, by decide, Tryz.func167.trans (congrArg some (by kernel_rfl))⟩
  f50 := ⟨Tryz.f168.name, by decide, Tryz.func168.trans (congrArg some (by kernel_rfl))⟩
  f57 := ⟨Tryz.f182.name, by decide, Tryz.func182.trans (congrArg some (by kernel_rfl))⟩
  t0 := Tryz.underlying0
  a0 := Tryz.isAgg0
  z0 := Tryz.sizeOf0
  v0 := Tryz.zeroValue0
  t3 := Tryz.underlying3
  a3 := Tryz.isAgg3
  z3 := Tryz.sizeOf3
  v3 := Tryz.zeroValue3
  t4 := Tryz.underlying4
  a4 := Tryz.isAgg4
  z4 := Tryz.sizeOf4
  v4 := Tryz.zeroValue4
  t5 := Tryz.underlying5
  a5 := Tryz.isAgg5
  z5 := Tryz.sizeOf5
  v5 := Tryz.zeroValue5
  t9 := Tryz.underlying9
  a9 := Tryz.isAgg9
  z9 := Tryz.sizeOf9
  v9 := Tryz.zeroValue9
  t22 := Tryz.underlying66
  a22 := Tryz.isAgg66
  z22 := Tryz.sizeOf66
  v22 := Tryz.zeroValue66
  a24 := Tryz.isAgg69
  z24 := Tryz.sizeOf69
  t25 := Tryz.underlying109
  a25 := Tryz.isAgg109
  z25 := Tryz.sizeOf109
  v25 := Tryz.zeroValue109
  t39 := Tryz.underlying116
  a39 := Tryz.isAgg116
  z39 := Tryz.sizeOf116
  v39 := Tryz.zeroValue116
  t45 := Tryz.underlying159
  a45 := Tryz.isAgg159
  z45 := Tryz.sizeOf159
  v45 := Tryz.zeroValue159
  t46 := Tryz.underlying160
  a46 := Tryz.isAgg160
  z46 := Tryz.sizeOf160
  v46 := Tryz.zeroValue160
  t50 := Tryz.underlying131
  a50 := Tryz.isAgg131
  z50 := Tryz.sizeOf131
  v50 := Tryz.zeroValue131
  t53 := Tryz.underlying141
  a53 := Tryz.isAgg141
  z53 := Tryz.sizeOf141
  v53 := Tryz.zeroValue141
  t55 := Tryz.underlying143
  a55 := Tryz.isAgg143
  z55 := Tryz.sizeOf143
  v55 := Tryz.zeroValue143
  t66 := Tryz.underlying181
  a66 := Tryz.isAgg181
  z66 := Tryz.sizeOf181
  v66 := Tryz.zeroValue181
  t70 := Tryz.underlying154
  a70 := Tryz.isAgg154
  z70 := Tryz.sizeOf154
  v70 := Tryz.zeroValue154
  t76 := Tryz.underlying199
  a76 := Tryz.isAgg199
  z76 := Tryz.sizeOf199
  v76 := Tryz.zeroValue199
  t77 := Tryz.underlying138
  a77 := Tryz.isAgg138
  z77 := Tryz.sizeOf138
  v77 := Tryz.zeroValue138 }
open Go.RowKit Go.Lib in
theorem Tryz.slices_IndexFunc_empty {α : Type} [Inhabited α] (a : Option Addr) (c : Nat) (fv : Value) (w : World) :
    Calls Tryz.prog 116 #[.slice a 0 c, fv] w fun e w' => e = .returned (.int .i64 (-1)) ∧ w' = w := AnyE.slices_IndexFunc_empty Tryz.laysSlH6_f116 a c fv w
open Go.RowKit Go.Lib in
theorem Tryz.slices_ContainsFunc_empty {α : Type} [Inhabited α] (a : Option Addr) (c : Nat) (fv : Value) (w : World) :
    Calls Tryz.prog 131 #[.slice a 0 c, fv] w fun e w' => e = .returned (.bool false) ∧ w' = w := AnyE.slices_ContainsFunc_empty Tryz.laysSlH8_f131 a c fv w
end Go.Proofs
namespace Go.Proofs.YtbmcigakiibncaaGreatDoor.H
open Go.RowKit Go.Proofs.YtbmcigakiibncaaGreatDoorW.PrintWords Go.Proofs.YtbmcigakiibncaaGreatDoorW.PrintLast Go.Proofs.YtbmcigakiibncaaGreatDoorW.PrintMore
set_option linter.unusedVariables false
set_option linter.unusedSimpArgs false
def ofN (l : List Nat) : List Int := l.map fun (n : Nat) => (n : Int)
theorem ofN_len (l : List Nat) : (ofN l).length = l.length := List.length_map ..
def encI (z : Int) : Value := .int .i64 z
def AtRow (A : Option Addr) (n : Nat) : Prop := n = 0 ∨ ∃ b, A = some ⟨b, 0, none⟩
theorem row_at {e : Nat} {W : World} {base : Nat} {ok : Nat → Prop} {A : Option Addr} {n c : Nat} {xs : List Int} (h : (Kd.int .i64).R e W base ok (.slice A n c) xs) : AtRow A n := by
  obtain ⟨_, inner, ho, _⟩ := h
  rcases ho.2 with ⟨e1, h0⟩ | ⟨g, cap, cur, e1, _⟩
  · injection e1 with _ e2 _; exact .inl e2
  · injection e1 with e1 _ _; exact .inr ⟨g, e1⟩
theorem cells_I {W : World} {b n : Nat} {zs : List Int} (hr : Kd.C (Kd.int .i64) W (some ⟨b, 0, none⟩) n zs) (hn : n = zs.length) : ∀ j, j < zs.length → W.cell? ⟨b, 0 + j, none⟩ = some (encI zs[j]!) := by
  intro j hj
  obtain ⟨ad, e, hk⟩ := Kd.at_int hr (j : Int) (by omega) (by omega)
  injection e with e
  subst e
  rw [Int.toNat_natCast, show (Addr.add ⟨b, 0, none⟩ j) = ⟨b, 0 + j, none⟩ by unfold Addr.add; split <;> simp_all] at hk
  rw [hk]
  simp [encI, rd, List.getD_eq_getElem?_getD, List.getElem?_eq_getElem hj, getElem!_pos, hj]
theorem anyI_calls (A : Option Addr) (c : Nat) (zs : List Int) (g : Nat) (lb : Array Value) (p : Int → Bool) (eg : ∀ args w, (callFunc g args).run Tryz.prog w = .ok (.enter g args) w) (W : World) (hp : PredAt Tryz.prog g lb encI p W)
    (hr : Kd.C (Kd.int .i64) W A zs.length zs) (ha : AtRow A zs.length) :
    Calls Tryz.prog 131 #[.slice A zs.length c, .func (.func g) #[] lb] W fun e w' => e = .returned (.bool (zs.any p)) ∧ ∃ q, w' = W.drewN q := by
  rcases ha with h0 | ⟨b, rfl⟩
  · rw [h0]
    refine (Tryz.slices_ContainsFunc_empty (α := Int) A c _ W).mono ?_
    rintro e w' ⟨rfl, rfl⟩
    obtain rfl : zs = [] := List.length_eq_zero_iff.1 h0
    exact ⟨rfl, 0, rfl⟩
  · have h := Tryz.slices_ContainsFunc encI p g lb eg b 0 zs.length c zs W hp (Nat.le_refl _) hr.2.1 (cells_I hr rfl)
    rw [List.take_length] at h
    exact h
theorem idxI_calls (A : Option Addr) (c : Nat) (zs : List Int) (g : Nat) (lb : Array Value) (p : Int → Bool) (eg : ∀ args w, (callFunc g args).run Tryz.prog w = .ok (.enter g args) w) (W : World) (hp : PredAt Tryz.prog g lb encI p W)
    (hr : Kd.C (Kd.int .i64) W A zs.length zs) (ha : AtRow A zs.length) :
    Calls Tryz.prog 116 #[.slice A zs.length c, .func (.func g) #[] lb] W fun e w' => e = .returned (.int .i64 (Lib.idxBy (fun _ y => p y) zs default)) ∧ ∃ q, w' = W.drewN q := by
  rcases ha with h0 | ⟨b, rfl⟩
  · rw [h0]
    refine (Tryz.slices_IndexFunc_empty (α := Int) A c _ W).mono ?_
    rintro e w' ⟨rfl, rfl⟩
    obtain rfl : zs = [] := List.length_eq_zero_iff.1 h0
    exact ⟨rfl, 0, rfl⟩
  · have h := Tryz.slices_IndexFunc encI p g lb eg b 0 zs.length c zs W hp (Nat.le_refl _) hr.2.1 (cells_I hr rfl)
    rw [List.take_length] at h
    exact h
def neededB (alts : List Nat) (x : Nat) : Bool := (bitsN x).all fun i => alts.any fun l => l &&& x == 2 ^ i
theorem eg132 : ∀ args w, (callFunc 132 args).run Tryz.prog w = .ok (.enter 132 args) w := enters_of Tryz.func132 (by kernel_rfl) rfl
theorem eg117 : ∀ args w, (callFunc 117 args).run Tryz.prog w = .ok (.enter 117 args) w := enters_of Tryz.func117 (by kernel_rfl) rfl
set_option maxHeartbeats 2000000 in
theorem pred132 (bx bo : Nat) (x o : Int) (w : World) (hx : w.cell? ⟨bx, 0, none⟩ = some (.int .i64 x)) (ho : w.cell? ⟨bo, 0, none⟩ = some (.int .i64 o)) :
    PredAt Tryz.prog 132 #[.pointer (some ⟨bx, 0, none⟩), .pointer (some ⟨bo, 0, none⟩)] encI (fun z => bits .and .i64 z x == o) w := by
  intro W z hb
  have h1 := pw_cell_below hb hx
  have h2 := pw_cell_below hb ho
  clear hx ho hb
  unfold FnGives
  unfold encI
  simp only [List.append_toArray, List.cons_append, List.nil_append]
  generalize hy : bits .and .i64 z x = y
  go_enter Tryz.func132, Tryz.ntmps132
  go_wp2
  go_ret
  exact ⟨rfl, 0, rfl⟩
set_option maxHeartbeats 2000000 in
theorem pred117 (bx : Nat) (x : Int) (w : World) (hx : w.cell? ⟨bx, 0, none⟩ = some (.int .i64 x)) :
    PredAt Tryz.prog 117 #[.pointer (some ⟨bx, 0, none⟩)] encI (fun z => bits .and .i64 z x == 0) w := by
  intro W z hb
  have h1 := pw_cell_below hb hx
  clear hx hb
  unfold FnGives
  unfold encI
  simp only [List.append_toArray, List.cons_append, List.nil_append]
  go_enter Tryz.func117, Tryz.ntmps117
  go_wp2
  go_ret
  exact ⟨rfl, 0, rfl⟩
theorem any_and {alts : List Nat} {x : Nat} (hal : ∀ l ∈ alts, l < 16777216) (hx : x < 16777216) (q : Nat) : (ofN alts).any (fun z => bits .and .i64 z (x : Int) == (q : Int)) = alts.any fun l => l &&& x == q := by
  unfold ofN
  rw [List.any_map]
  refine any_congr fun l hl => ?_
  show (bits .and .i64 (l : Int) (x : Int) == (q : Int)) = _
  rw [i64_and (by have := hal l hl; omega) (by omega)]
  by_cases h : l &&& x = q
  · rw [h]; simp
  · rw [Bool.eq_iff_iff, beq_iff_eq, beq_iff_eq]
    omega
set_option maxHeartbeats 4000000 in
theorem needed_calls (hb : Nat) (A : Option Addr) (c : Nat) (alts : List Nat) (x : Nat) (w : World) (hal : ∀ l ∈ alts, l < 16777216) (hx : x < 16777216) (hk : w.cell? ⟨hb, 0, none⟩ = some (.slice A alts.length c)) (hr : Kd.C (Kd.int .i64) w A alts.length (ofN alts)) (ha : AtRow A alts.length) :
    Calls Tryz.prog 115 #[.pointer (some ⟨hb, 0, none⟩), .int .i64 (x : Int)] w fun E w' => E = .returned (.bool (neededB alts x)) ∧ Below w.heap.size w w' := by
  have HAL := Aside0.mk hal
  have HX := Aside0.mk hx
  have HK := Aside0.mk hk
  have HR := Aside0.mk hr
  have HA := Aside0.mk ha
  have HB0 := Aside0.mk (below_alloc (Below.refl w.heap.size w) (.cells #[.int .i64 (x : Int)] 3))
  have HN0 := Aside0.mk (blk_new w (.cells #[.int .i64 (x : Int)] 3))
  clear hal hk hr ha
  go_enter Tryz.func115, Tryz.ntmps115
  go_upto_region 1 with (fail)
  generalize w.alloc (.cells #[.int .i64 (x : Int)] 3) = W0 at *
  have k0 : W0.cell? ⟨w.heap.size, 0, none⟩ = some (.int .i64 (x : Int)) := (blk_cell HN0.out 0).trans rfl
  clear hx
  go_wp2
  clear k0
  go_loopg [5] x (fun gg v5 wi => ∃ y : Nat, y ≤ gg ∧ v5 = .int .i64 (y : Int) ∧ y < 16777216 ∧ Aside0 (neededB alts x = (bitsN y).all fun i => alts.any fun l => l &&& x == 2 ^ i) ∧ Aside0 (Below w.heap.size w wi) ∧ Aside0 (wi.heap[w.heap.size]? = some (.cells #[.int .i64 (x : Int)] 3 (0, 0))))
  case atStart => exact ⟨x, Nat.le_refl _, rfl, HX.out, ⟨rfl⟩, HB0, HN0⟩
  case round =>
    clear HB0 HN0
    obtain ⟨y, hgg, rfl, hy, HE, HB, HBX⟩ := hrel
    by_cases h0 : y = 0
    · subst h0
      have HV := Aside0.mk (show neededB alts x = true by rw [HE.out, bitsN_zero]; rfl)
      clear HE
      go_wp2
      go_ret
      exact ⟨by rw [HV.out]; rfl, HB.out⟩
    · have h0z : ¬ (y : Int) = 0 := by omega
      have HST := Aside0.mk (show neededB alts x = ((alts.any fun l => l &&& x == 2 ^ lo y) && (bitsN (y &&& (y - 1))).all fun i => alts.any fun l => l &&& x == 2 ^ i) by rw [HE.out, bitsN_step h0 hy]; rfl)
      have hlow := i64_low h0 hy
      have hdrop := i64_drop h0 hy
      have HDL := Aside0.mk (drop_lt h0 hy)
      have HP := Aside0.mk (lo_pow h0 hy)
      have HAN := Aside0.mk (any_and (x := x) HAL.out HX.out (2 ^ lo y))
      have hneg : wrap64 (-(y : Int)) = -(y : Int) := wr_id (by omega) (by omega)
      generalize 2 ^ lo y = q at *
      have HC := Aside0.mk (fun (w1 : World) (h1 : Below wr.heap.size wr w1) (h2 : w1.cell? ⟨wr.heap.size, 0, none⟩ = some (.int .i64 (q : Int))) =>
        anyI_calls A c (ofN alts) 132 #[.pointer (some ⟨w.heap.size, 0, none⟩), .pointer (some ⟨wr.heap.size, 0, none⟩)] _ eg132 w1
          (pred132 w.heap.size wr.heap.size (x : Int) (q : Int) w1 (pw_cell_below h1 ((blk_cell (HBX.out) 0).trans rfl)) h2) (by rw [ofN_len]; exact Kd.C_below HR.out (below_then HB.out (HB.out).size h1)) (by rw [ofN_len]; exact HA.out))
      rw [ofN_len] at HC
      have k1 := pw_cell_below HB.out HK.out
      have HB1 := Aside0.mk (below_alloc (Below.refl wr.heap.size wr) (.cells #[.int .i64 (q : Int)] 3))
      have HN1 := Aside0.mk (blk_new wr (.cells #[.int .i64 (q : Int)] 3))
      have hmf := run_mkfun
      go_upto_region 5 with (fail)
      have HC2 := Aside0.mk (HC.out _ HB1.out ((blk_cell HN1.out 0).trans rfl))
      have k2 := pw_cell_below HB1.out k1
      have HB2 := Aside0.mk (below_then HB.out (HB.out).size HB1.out)
      have HBX2 := Aside0.mk (blk_below HBX.out HB1.out)
      rw [HAN.out] at HC2
      clear k1 HC HB HBX HB1 HN1 HAN
      generalize wr.alloc (.cells #[.int .i64 (q : Int)] 3) = W1 at *
      cases hq : (alts.any fun l => l &&& x == q) with
      | false =>
        have HV := Aside0.mk (show neededB alts x = false by rw [HST.out, hq]; rfl)
        rw [hq] at HC2
        clear hq
        go_wp2_with fail
        refine (HC2.out).mono ?_
        rintro E W2 ⟨rfl, nq, rfl⟩
        go_wp2
        go_ret
        exact ⟨by rw [HV.out]; rfl, pw_below_drewN HB2.out nq⟩
      | true =>
        have HV := Aside0.mk (show neededB alts x = (bitsN (y &&& (y - 1))).all fun i => alts.any fun l => l &&& x == 2 ^ i by rw [HST.out, hq]; rfl)
        rw [hq] at HC2
        clear hq
        go_wp2_with fail
        refine (HC2.out).mono ?_
        rintro E W2 ⟨rfl, nq, rfl⟩
        have HB3 := Aside0.mk (pw_below_drewN HB2.out nq)
        have HBX3 := Aside0.mk (blk_drewN HBX2.out nq)
        have HDR := Aside0.mk hdrop
        clear HB2 HBX2
        generalize W1.drewN nq = W3 at *
        go_wp2
        go_roundg (y &&& (y - 1))
        case measure => have := HDL.out; omega
        case rel => exact ⟨_, Nat.le_refl _, rfl, by have := HDL.out; omega, HV, HB3, HBX3⟩
end Go.Proofs.YtbmcigakiibncaaGreatDoor.H
namespace Go.Proofs.YtbmcigakiibncaaGreatDoor.H
open Go.RowKit Go.Proofs.YtbmcigakiibncaaGreatDoorW.PrintWords Go.Proofs.YtbmcigakiibncaaGreatDoorW.PrintLast Go.Proofs.YtbmcigakiibncaaGreatDoorW.PrintMore
set_option linter.unusedVariables false
set_option linter.unusedSimpArgs false
def andN (l wo : Nat) : Nat := l &&& (18446744073709551615 - wo)
def hitBits (rec : Nat → Nat → List Nat) (x : Nat) : Nat → List Nat → List Nat
  | _, [] => []
  | wo, i :: r => rec (x ||| 2 ^ i) wo ++ hitBits rec x (wo ||| 2 ^ i) r
def hitAll (alts : List Nat) : Nat → Nat → Nat → List Nat
  | 0, _, _ => []
  | k + 1, x, wo => if neededB alts x then (match alts.find? (fun l => l &&& x == 0) with
    | none => [x]
    | some l => hitBits (hitAll alts k) x wo (bitsN (andN l wo))) else []
theorem idx_from (x : Nat) (hx : x < 16777216) : ∀ (alts : List Nat) (i : Nat), (∀ l ∈ alts, l < 16777216) →
    match alts.find? (fun l => l &&& x == 0) with
    | none => Lib.idxByFrom (fun (_ : Int) y => bits .and .i64 y (x : Int) == 0) default (ofN alts) i = -1
    | some l => ∃ j, j < alts.length ∧ alts.getD j 0 = l ∧ Lib.idxByFrom (fun (_ : Int) y => bits .and .i64 y (x : Int) == 0) default (ofN alts) i = ((i + j : Nat) : Int)
  | [], i, _ => rfl
  | a :: r, i, h => by
    have e : (bits .and .i64 (a : Int) (x : Int) == 0) = (a &&& x == 0) := by
      rw [i64_and (by have := h a (List.mem_cons_self ..); omega) (by omega), Bool.eq_iff_iff, beq_iff_eq, beq_iff_eq]
      omega
    have ih := idx_from x hx r (i + 1) (fun l hl => h l (List.mem_cons_of_mem _ hl))
    rw [List.find?_cons]
    unfold ofN at ih ⊢
    rw [List.map_cons, Lib.idxByFrom, e]
    cases ha : (a &&& x == 0) with
    | true => exact ⟨0, by simp, rfl, by simp⟩
    | false =>
      simp only
      rw [if_neg (by decide)]
      cases hf : r.find? (fun l => l &&& x == 0) with
      | none => rw [hf] at ih; exact ih
      | some l =>
        rw [hf] at ih
        obtain ⟨j, hj, hl, he⟩ := ih
        exact ⟨j + 1, by rw [List.length_cons]; omega, by simpa using hl, by rw [he]; congr 1; omega⟩
theorem bitsN_mem {m i : Nat} : i ∈ bitsN m ↔ i < 24 ∧ m.testBit i = true := by unfold bitsN; rw [List.mem_filter, List.mem_range]
theorem or_lt {x i : Nat} (hx : x < 16777216) (hi : i < 24) : x ||| 2 ^ i < 16777216 := Nat.or_lt_two_pow (n := 24) hx (Nat.pow_lt_pow_right (by decide) hi)
theorem or_len {x i : Nat} (hx : x.testBit i = false) (hi : i < 24) : (bitsN (x ||| 2 ^ i)).length = (bitsN x).length + 1 := by
  have h : ∀ n, i < n → ((List.range n).filter fun j => (x ||| 2 ^ i).testBit j).length = ((List.range n).filter fun j => x.testBit j).length + 1 := by
    intro n hn
    rw [range_cut hn, List.filter_append, List.filter_append, List.filter_cons, List.filter_cons, hx]
    rw [show (x ||| 2 ^ i).testBit i = true by rw [Nat.testBit_or, Nat.testBit_two_pow]; simp]
    have e1 : (List.range i).filter (fun j => (x ||| 2 ^ i).testBit j) = (List.range i).filter (fun j => x.testBit j) := List.filter_congr fun j hj => by
      have := List.mem_range.1 hj
      rw [Nat.testBit_or, Nat.testBit_two_pow, decide_eq_false (by omega), Bool.or_false]
    have e2 : (List.range' (i + 1) (n - i - 1)).filter (fun j => (x ||| 2 ^ i).testBit j) = (List.range' (i + 1) (n - i - 1)).filter (fun j => x.testBit j) := List.filter_congr fun j hj => by
      have := (List.mem_range'_1.1 hj).1
      rw [Nat.testBit_or, Nat.testBit_two_pow, decide_eq_false (by omega), Bool.or_false]
    rw [e1, e2]
    simp
    omega
  exact h 24 hi
theorem andN_le (l wo : Nat) : andN l wo ≤ l := Nat.and_le_left
theorem andN_bit {l wo i : Nat} (h : (andN l wo).testBit i = true) : l.testBit i = true := by
  unfold andN at h
  rw [Nat.testBit_and, Bool.and_eq_true] at h
  exact h.1
theorem and_zero_bit {l x i : Nat} (h : (l &&& x == 0) = true) (hl : l.testBit i = true) : x.testBit i = false := by
  have h1 : (l &&& x).testBit i = false := by rw [beq_iff_eq.1 h]; simp
  rw [Nat.testBit_and, hl, Bool.true_and] at h1
  exact h1
structure HS (w0 : World) (t0 hb : Nat) (A : Option Addr) (c : Nat) (alts : List Nat) (v : Value) (o : List Nat) (W : World) : Prop where
  below : Below w0.heap.size w0 W
  h0 : w0.heap.size ≤ hb
  ht : hb < t0
  hW : t0 ≤ W.heap.size
  blk : W.heap[hb]? = some (.cells #[.slice A alts.length c, v] 124 (0, 0))
  ra : Kd.R (Kd.int .i64) 3 W w0.heap.size (fun k => k < t0 ∧ k ≠ hb) (.slice A alts.length c) (ofN alts)
  ro : Kd.R (Kd.int .i64) 3 W w0.heap.size (fun k => t0 ≤ k) v (ofN o)
structure Fr (t0 hb : Nat) (v : Value) (W : World) (v' : Value) (W' : World) : Prop where
  size : W.heap.size ≤ W'.heap.size
  keep : ∀ k, k < W.heap.size → k ≠ hb → (k < t0 ∨ some k ≠ v.ownBlock) → W'.heap[k]? = W.heap[k]?
  own : v'.ownBlock = v.ownBlock ∨ ∃ b, v'.ownBlock = some b ∧ W.heap.size ≤ b
theorem Fr.refl (t0 hb : Nat) (v : Value) (W : World) : Fr t0 hb v W v W := ⟨Nat.le_refl _, fun _ _ _ _ => rfl, .inl rfl⟩
theorem Fr.trans {t0 hb : Nat} {v v1 v2 : Value} {W W1 W2 : World} (h : Fr t0 hb v W v1 W1) (h2 : Fr t0 hb v1 W1 v2 W2) : Fr t0 hb v W v2 W2 := by
  refine ⟨Nat.le_trans h.size h2.size, fun k hk hne ho => ?_, ?_⟩
  · rw [h2.keep k (Nat.lt_of_lt_of_le hk h.size) hne ?_, h.keep k hk hne ho]
    rcases ho with ho | ho
    · exact .inl ho
    · rcases h.own with e | ⟨b, e, hb⟩
      · rw [e]; exact .inr ho
      · rw [e]; refine .inr fun x => ?_
        injection x with x
        omega
  · rcases h2.own with e | ⟨b, e, hb⟩
    · rw [e]; exact h.own
    · exact .inr ⟨b, e, Nat.le_trans h.size hb⟩
theorem Fr.below {t0 hb : Nat} {v : Value} {W W1 : World} (h : Below W.heap.size W W1) : Fr t0 hb v W v W1 := ⟨h.size, fun k hk _ _ => h.block k hk, .inl rfl⟩
theorem HS.move {w0 : World} {t0 hb : Nat} {A : Option Addr} {c : Nat} {alts : List Nat} {v : Value} {o : List Nat} {W W1 : World} (h : HS w0 t0 hb A c alts v o W) (hB : Below W.heap.size W W1) : HS w0 t0 hb A c alts v o W1 :=
  ⟨below_then h.below h.below.size hB, h.h0, h.ht, Nat.le_trans h.hW hB.size, blk_below h.blk hB, Kd.R_below h.ra hB, Kd.R_below h.ro hB⟩
theorem HS.reads {w0 : World} {t0 hb : Nat} {A : Option Addr} {c : Nat} {alts : List Nat} {v : Value} {o : List Nat} {W : World} (h : HS w0 t0 hb A c alts v o W) :
    W.cell? ⟨hb, 0, none⟩ = some (.slice A alts.length c) ∧ W.cell? ⟨hb, 1, none⟩ = some v ∧ Kd.C (Kd.int .i64) W A alts.length (ofN alts) ∧ AtRow A alts.length ∧ v.ownBlock ≠ some hb := by
  refine ⟨(blk_cell h.blk 0).trans rfl, (blk_cell h.blk 1).trans rfl, ?_, row_at h.ra, fun e => ?_⟩
  · have := Kd.R_reads' h.ra
    rw [ofN_len] at this
    exact this.2.2
  · obtain ⟨⟨cc, hcc⟩, _⟩ := ownBlock_typed h.ro e
    exact types_ne h.blk hcc (by decide) rfl
theorem HS.put {w0 : World} {t0 hb : Nat} {A : Option Addr} {c : Nat} {alts : List Nat} {v v1 : Value} {o : List Nat} {W W1 : World} (h : HS w0 t0 hb A c alts v o W) (x : Nat)
    (hr : Kd.R (Kd.int .i64) 3 W1 w0.heap.size (fun k => t0 ≤ k) v1 (ofN o ++ [(x : Int)])) (hb1 : Below w0.heap.size w0 W1) (hg : W.grownBy W1 v.ownBlock) (hat : v1.ownBlock = v.ownBlock ∨ ∃ b, v1.ownBlock = some b ∧ W.heap.size ≤ b) :
    HS w0 t0 hb A c alts v1 (o ++ [x]) (W1.setCell ⟨hb, 1, none⟩ v1) ∧ Fr t0 hb v W v1 (W1.setCell ⟨hb, 1, none⟩ v1) := by
  have hset : ∀ k, k ≠ hb → (W1.setCell ⟨hb, 1, none⟩ v1).heap[k]? = W1.heap[k]? := fun k hk => Below.heap_setCell W1 _ _ k hk
  have hs : (W1.setCell ⟨hb, 1, none⟩ v1).heap.size = W1.heap.size := by simp [World.setCell]
  have hgs := hg.size
  have hbk := blk_grown h.blk hg (fun e => (h.reads).2.2.2.2 e.symm)
  have hv : ∀ k, v.ownBlock = some k → t0 ≤ k := fun k hk => h.ro.1 k hk
  refine ⟨⟨hb1.setCell (p := ⟨hb, 1, none⟩) h.h0 _, h.h0, h.ht, by rw [hs]; have := h.hW; omega, blk_set hbk 1 v1, ?_, ?_⟩, by rw [hs]; exact hgs, fun k hk hne ho => ?_, hat⟩
  · refine R_same h.ra (fun k hk hlt => ?_)
    rw [hset k hk.2]
    exact hg.block k hlt (fun e => by have := hv k e.symm; omega)
  · rw [show ofN (o ++ [x]) = ofN o ++ [(x : Int)] by unfold ofN; simp]
    exact R_same hr (fun k hk hlt => hset k (by have := h.ht; omega))
  · rw [hset k hne]
    refine hg.block k hk (fun e => ?_)
    rcases ho with ho | ho
    · have := hv k e.symm; omega
    · exact ho e
end Go.Proofs.YtbmcigakiibncaaGreatDoor.H
namespace Go.Proofs.YtbmcigakiibncaaGreatDoor.H
open Go.RowKit Go.Proofs.YtbmcigakiibncaaGreatDoorW.PrintWords Go.Proofs.YtbmcigakiibncaaGreatDoorW.PrintLast Go.Proofs.YtbmcigakiibncaaGreatDoorW.PrintMore
set_option linter.unusedVariables false
set_option linter.unusedSimpArgs false
def tabT96 : Bool × List (List Nat × List Nat) := (true, [([], []), ([], []), ([1], [1]), ([2], [2]), ([3], [3]), ([], []), ([5], [5]), ([4, 6], [4, 6]), ([0, 0, 1, 2, 3, 4, 5, 6, 7], [0]), ([8, 0, 1, 2, 3, 4, 5, 6, 7], [8]), ([9, 7, 7, 0, 1, 2, 3, 4, 5, 6, 7], [7, 9])])
theorem tab96 : rtab .any (opsOf Tryz.f96 5) = tabT96 := by kernel_rfl
theorem bits96 : waitsOk tabT96.2 [0, 0, 2, 6, 14, 0, 32, 126, 255, 511, 1023] = true := by kernel_rfl
def HitE (w0 : World) (t0 hb : Nat) (A : Option Addr) (c : Nat) (alts : List Nat) (v : Value) (tot : List Nat) (w : World) (E : Ending) (w' : World) : Prop :=
  ∃ v', E = .returned (.bool (decide (tot.length ≤ 12))) ∧ HS w0 t0 hb A c alts v' (tot.take 13) w' ∧ Fr t0 hb v w v' w'
theorem getD_memN2 {alts : List Nat} {j : Nat} (h : j < alts.length) : alts.getD j 0 ∈ alts := by
  rw [List.getD_eq_getElem?_getD, List.getElem?_eq_getElem h]; exact List.getElem_mem h
theorem ret_b {a b : Bool} (h : a = b) : Ending.returned (.bool a) = .returned (.bool b) := by rw [h]
set_option maxHeartbeats 16000000 in
set_option maxRecDepth 100000 in
theorem hit_calls (w0 : World) (t0 hb : Nat) (A : Option Addr) (c : Nat) (alts : List Nat) (hal : ∀ l ∈ alts, l < 16777216) :
    ∀ (k : Nat) (x wo : Nat) (v : Value) (o : List Nat) (w : World), x < 16777216 → wo < 16777216 → 25 ≤ (bitsN x).length + k → o.length ≤ 12 → HS w0 t0 hb A c alts v o w →
      Calls Tryz.prog 96 #[.pointer (some ⟨hb, 0, none⟩), .int .i64 (x : Int), .int .i64 (wo : Int)] w (HitE w0 t0 hb A c alts v (o ++ hitAll alts k x wo) w)
  | 0, x, wo, v, o, w, hx, hwo, hk, ho, hs => absurd (bitsN_len x) (by omega)
  | k + 1, x, wo, v, o, w, hx, hwo, hk, ho, hs => by
    have IH := Aside0.mk (hit_calls w0 t0 hb A c alts hal k)
    have HAL := Aside0.mk hal
    have HX := Aside0.mk hx
    have HWO := Aside0.mk hwo
    have HKL := Aside0.mk hk
    have HOL := Aside0.mk ho
    have hb0 := below_alloc (Below.refl w.heap.size w) (.cells #[.int .i64 (x : Int)] 3)
    have HS1 := Aside0.mk (hs.move hb0)
    have HF1 := Aside0.mk (Fr.below (t0 := t0) (hb := hb) (v := v) hb0)
    have HBX1 := Aside0.mk (blk_new w (.cells #[.int .i64 (x : Int)] 3))
    have HVX := Aside0.mk (show ∀ k, v.ownBlock = some k → k ≠ w.heap.size from fun k hk => by have := (ownBlock_typed hs.ro hk).2; omega)
    have HXB := Aside0.mk (show hb < w.heap.size from by have := hs.ht; have := hs.hW; omega)
    clear hal hk ho hs hb0 hx hwo
    go_enter Tryz.func96, Tryz.ntmps96
    go_upto_region 1 with (fail)
    generalize w.alloc (.cells #[.int .i64 (x : Int)] 3) = W1 at *
    have kx : W1.cell? ⟨w.heap.size, 0, none⟩ = some (.int .i64 (x : Int)) := (blk_cell HBX1.out 0).trans rfl
    have HN := Aside0.mk (needed_calls hb A c alts x W1 HAL.out HX.out (HS1.out).reads.1 (HS1.out).reads.2.2.1 (HS1.out).reads.2.2.2.1)
    go_wp2_with fail
    refine (HN.out).mono ?_
    rintro E W2 ⟨rfl, hb2⟩
    have HS2 := Aside0.mk ((HS1.out).move hb2)
    have HF2 := Aside0.mk ((HF1.out).trans (Fr.below hb2))
    have HBX2 := Aside0.mk (blk_below HBX1.out hb2)
    clear hb2 kx HS1 HF1 HBX1 HN
    cases hn : neededB alts x with
    | false =>
      have HT := Aside0.mk (show o ++ hitAll alts (k + 1) x wo = o by rw [hitAll, hn]; simp)
      clear hn
      go_wp2
      go_ret
      rw [HT.out]
      exact ⟨v, ret_b (by rw [decide_eq_true HOL.out]), by rw [List.take_of_length_le (Nat.le_succ_of_le HOL.out)]; exact HS2.out, HF2.out⟩
    | true =>
    have HIT := Aside0.mk (show hitAll alts (k + 1) x wo = (match alts.find? (fun l => l &&& x == 0) with | none => [x] | some l => hitBits (hitAll alts k) x wo (bitsN (andN l wo))) by rw [hitAll, hn]; rfl)
    have HID := Aside0.mk (idx_from x HX.out alts 0 HAL.out)
    have hmf := run_mkfun
    obtain ⟨kh0, kh1, hrd, hat, hne⟩ := (HS2.out).reads
    have kx : W2.cell? ⟨w.heap.size, 0, none⟩ = some (.int .i64 (x : Int)) := (blk_cell HBX2.out 0).trans rfl
    have HIX := Aside0.mk (idxI_calls A c (ofN alts) 117 #[.pointer (some ⟨w.heap.size, 0, none⟩)] _ eg117 W2 (pred117 w.heap.size (x : Int) W2 kx) (by rw [ofN_len]; exact hrd) (by rw [ofN_len]; exact hat))
    rw [ofN_len] at HIX
    have HIB := Aside0.mk (show Lib.idxBy (fun (_ : Int) y => bits .and .i64 y (x : Int) == 0) (ofN alts) default = Lib.idxByFrom (fun (_ : Int) y => bits .and .i64 y (x : Int) == 0) default (ofN alts) 0 from rfl)
    rw [HIB.out] at HIX
    generalize Lib.idxByFrom (fun (_ : Int) y => bits .and .i64 y (x : Int) == 0) default (ofN alts) 0 = ix at *
    clear hrd hat hne hn HIB
    go_wp2_with fail
    refine (HIX.out).mono ?_
    rintro E W3 ⟨rfl, nq, rfl⟩
    have hbn := pw_below_drewN (Below.refl W2.heap.size W2) nq
    have HS3 := Aside0.mk ((HS2.out).move hbn)
    have HF3 := Aside0.mk ((HF2.out).trans (Fr.below hbn))
    have HBX3 := Aside0.mk (blk_below HBX2.out hbn)
    clear hbn kh0 kh1 kx HS2 HF2 HBX2 HIX
    generalize W2.drewN nq = W3 at *
    obtain ⟨kh0, kh1, hrd, hat, hne⟩ := (HS3.out).reads
    have kx : W3.cell? ⟨w.heap.size, 0, none⟩ = some (.int .i64 (x : Int)) := (blk_cell HBX3.out 0).trans rfl
    have HRD := Aside0.mk hrd
    have HATR := Aside0.mk hat
    clear hrd hat hne
    cases hf : alts.find? (fun l => l &&& x == 0) with
    | none =>
      have hix : ix = -1 := by have := HID.out; rw [hf] at this; exact this
      subst hix
      have HT := Aside0.mk (show hitAll alts (k + 1) x wo = [x] by rw [HIT.out, hf])
      clear HID HIT hf
      have HS3d := Aside0.mk ((HS3.out).move (below_drew (Below.refl _ _)))
      have HBX3d := Aside0.mk (blk_below HBX3.out (below_drew (Below.refl _ _)))
      have HF3d := Aside0.mk ((HF3.out).trans (Fr.below (below_drew (Below.refl _ _))))
      go_upto_region 5 with (fail)
      refine wp_region_noPanic ?_
      refine start_ (n := 11) (S := fun w' => w'.cell? ⟨hb, 1, none⟩ = some v ∧ w'.cell? ⟨w.heap.size, 0, none⟩ = some (.int .i64 (x : Int))) (ds := [10]) #[false, false, false, false, false, false, false, false, false, false, false] (by kernel_rfl) rfl rfl ⟨pw_cell_below (below_drew (Below.refl _ _)) kh1, pw_cell_below (below_drew (Below.refl _ _)) kx⟩ (fun hHeld => ?_)
      refine with_tabW tab96 bits96 (fun HT_ HW_ => ?_)
      clear kh0 kh1 kx
      refine take_ (i := 0) (N := some 22) (v := ?_) (a' := ?_) #[true, false, false, false, false, false, false, false, false, false, false] rfl rfl (take_ofW HT_.out HW_.out (by kernel_rfl)) (fun _ _ _ h => h) (Or.inl ⟨by rfl, ?_⟩) hHeld ?_ ?_
      rotate_left
      · rintro w' ⟨s0, s1⟩
        go_simp
        with_reducible rfl
      rotate_left
      · simp only [Act.put, List.setIfInBounds_toArray, List.set_cons_zero, List.set_cons_succ]
        rfl
      refine take_ (i := 1) (N := some 23) (v := ?_) (a' := ?_) #[true, true, false, false, false, false, false, false, false, false, false] rfl rfl (take_ofW HT_.out HW_.out (by kernel_rfl)) (fun _ _ _ h => h) (Or.inl ⟨by rfl, ?_⟩) hHeld ?_ ?_
      rotate_left
      · rintro w' ⟨s0, s1⟩
        go_simp
        with_reducible rfl
      rotate_left
      · simp only [Act.put, List.setIfInBounds_toArray, List.set_cons_zero, List.set_cons_succ]
        rfl
      refine take_ (i := 2) (N := some 24) (v := ?_) (a' := ?_) #[true, true, true, false, false, false, false, false, false, false, false] rfl rfl (take_ofW HT_.out HW_.out (by kernel_rfl)) (fun _ _ _ h => h) (Or.inl ⟨by rfl, ?_⟩) hHeld ?_ ?_
      rotate_left
      · rintro w' ⟨s0, s1⟩
        go_simp
        with_reducible rfl
      rotate_left
      · simp only [Act.put, List.setIfInBounds_toArray, List.set_cons_zero, List.set_cons_succ]
        rfl
      refine take_ (i := 3) (N := some 25) (v := ?_) (a' := ?_) #[true, true, true, true, false, false, false, false, false, false, false] rfl rfl (take_ofW HT_.out HW_.out (by kernel_rfl)) (fun _ _ _ h => h) (Or.inl ⟨by rfl, ?_⟩) hHeld ?_ ?_
      rotate_left
      · rintro w' ⟨s0, s1⟩
        go_simp
        with_reducible rfl
      rotate_left
      · simp only [Act.put, List.setIfInBounds_toArray, List.set_cons_zero, List.set_cons_succ]
        rfl
      refine take_ (i := 4) (N := some 26) (v := ?_) (a' := ?_) #[true, true, true, true, true, false, false, false, false, false, false] rfl rfl (take_ofW HT_.out HW_.out (by kernel_rfl)) (fun _ _ _ h => h) (Or.inl ⟨by rfl, ?_⟩) hHeld ?_ ?_
      rotate_left
      · rintro w' ⟨s0, s1⟩
        go_simp
        with_reducible rfl
      rotate_left
      · simp only [Act.put, List.setIfInBounds_toArray, List.set_cons_zero, List.set_cons_succ]
        rfl
      refine take_ (i := 5) (N := some 27) (v := ?_) (a' := ?_) #[true, true, true, true, true, true, false, false, false, false, false] rfl rfl (take_ofW HT_.out HW_.out (by kernel_rfl)) (fun _ _ _ h => h) (Or.inl ⟨by rfl, ?_⟩) hHeld ?_ ?_
      rotate_left
      · rintro w' ⟨s0, s1⟩
        go_simp
        with_reducible rfl
      rotate_left
      · simp only [Act.put, List.setIfInBounds_toArray, List.set_cons_zero, List.set_cons_succ]
        rfl
      refine one_ (i := 6) (N := some 28) #[true, true, true, true, true, true, true, false, false, false, false] rfl rfl (one_of HT_.out (by kernel_rfl)) (by decide) (fun K hK => ?_)
      refine value_ (w1 := ?_) (v := ?_) (by rfl) rfl ?_ ?_
      rotate_left 2
      · go_simp
        constructor
        · rfl
        · rfl
      refine hK.out _ _ ⟨pw_cell_below (below_alloc (Below.refl _ _) _) hHeld.1, pw_cell_below (below_alloc (Below.refl _ _) _) hHeld.2⟩ (fun hHeld => ?_)
      clear hK K
      refine norm_ (a' := ?_) ?_ ?_
      rotate_left
      · show Act.put _ (some 28) _ = _
        simp only [Act.put, List.setIfInBounds_toArray, List.set_cons_zero, List.set_cons_succ]
        rfl
      refine one_ (i := 7) (N := some 29) #[true, true, true, true, true, true, true, true, false, false, false] rfl rfl (one_of HT_.out (by kernel_rfl)) (by decide) (fun K hK => ?_)
      refine Kd.R_append_step (Kd.int .i64) (w0 := w0) (W := W3.drew) w0.heap.size (by rfl) (.tmp 26) (.tmp 28) 22 3 (.int .i64 0) 8 rfl Tryz.underlying22 Q.info3 rfl (by decide) (by decide) v (ofN o) (x : Int) [.int .i64 (x : Int)] (fun k => t0 ≤ k) (fun _ => False) (by rfl) (by rfl) rfl (fun _ hk => hk.elim) (fun k hk => Nat.le_trans (HS3d.out).hW hk) (HS3d.out).ro (HS3d.out).below (HS3d.out).below.size (by rw [ofN_len]; have := HOL.out; omega) ?_
      intro v5 w5 ho5 hb5 hg5 hat5
      obtain ⟨HS6, HF6⟩ := (HS3d.out).put x ho5 hb5 hg5 hat5
      have HBK := Aside0.mk (blk_grown (HS3d.out).blk hg5 (fun e => (HS3d.out).reads.2.2.2.2 e.symm))
      have HBX5 := Aside0.mk (blk_grown HBX3d.out hg5 (fun e => HVX.out _ e.symm rfl))
      have m1 : w5.cell? ⟨hb, 1, none⟩ = some v := (blk_cell HBK.out 1).trans rfl
      have m2 : w5.cell? ⟨w.heap.size, 0, none⟩ = some (.int .i64 (x : Int)) := (blk_cell HBX5.out 0).trans rfl
      have mf := blk_frozen HBK.out 1
      have HS6' := Aside0.mk HS6
      have HF6' := Aside0.mk HF6
      obtain ⟨A5, c5, e5⟩ := Kd.R_slice ho5
      rw [show (ofN o ++ [(x : Int)]).length = o.length + 1 by rw [List.length_append, ofN_len, List.length_singleton]] at e5
      subst e5
      clear HS6 HF6 ho5 hb5 hg5 hat5
      refine hK.out _ _ ⟨m1, m2⟩ (fun hHeld => ?_)
      clear hK K
      refine norm_ (a' := ?_) ?_ ?_
      rotate_left
      · show Act.put _ (some 29) _ = _
        simp only [Act.put, List.setIfInBounds_toArray, List.set_cons_zero, List.set_cons_succ]
        rfl
      refine take_ (i := 8) (N := some 30) (v := ?_) (a' := ?_) #[true, true, true, true, true, true, true, true, true, false, false] rfl rfl (take_ofW HT_.out HW_.out (by kernel_rfl)) (fun _ _ _ h => h) (Or.inl ⟨by rfl, ?_⟩) hHeld ?_ ?_
      rotate_left
      · rintro w' ⟨s0, s1⟩
        go_simp
        with_reducible rfl
      rotate_left
      · simp only [Act.put, List.setIfInBounds_toArray, List.set_cons_zero, List.set_cons_succ]
        rfl
      refine take_ (i := 9) (N := some 31) (v := ?_) (a' := ?_) #[true, true, true, true, true, true, true, true, true, true, false] rfl rfl (take_ofW HT_.out HW_.out (by kernel_rfl)) (fun _ _ _ h => h) (Or.inl ⟨by rfl, ?_⟩) hHeld ?_ ?_
      rotate_left
      · rintro w' ⟨s0, s1⟩
        go_simp
        with_reducible rfl
      rotate_left
      · simp only [Act.put, List.setIfInBounds_toArray, List.set_cons_zero, List.set_cons_succ]
        rfl
      refine last_ (i := 10) (N := none) #[true, true, true, true, true, true, true, true, true, true, true] rfl rfl (one_of HT_.out (by kernel_rfl)) (by decide) (fun K hK => ?_)
      refine skip_ (w1 := ?_) (by rfl) rfl ?_ ?_
      rotate_left
      · go_simp
        rfl
      refine hK.out _ _ ?_
      clear hK K
      refine done_ (done_of HT_.out (by kernel_rfl)) ?_
      refine NoPanic.normal ?_
      clear m1 m2 mf hHeld
      have HF7 := Aside0.mk ((HF3d.out).trans HF6'.out)
      obtain ⟨k0_, k1_, _, _, _⟩ := (HS6'.out).reads
      generalize w5.setCell ⟨hb, 1, none⟩ (.slice A5 (o.length + 1) c5) = W6 at *
      go_wp2
      go_ret
      rw [HT.out]
      exact ⟨_, ret_b (by rw [List.length_append, List.length_singleton, Bool.eq_iff_iff, decide_eq_true_eq, decide_eq_true_eq]; omega), by rw [List.take_of_length_le (by rw [List.length_append, List.length_singleton]; have := HOL.out; omega)]; exact HS6'.out, HF7.out⟩
    | some l =>
      obtain ⟨j, hj, hjl, hix⟩ : ∃ j, j < alts.length ∧ alts.getD j 0 = l ∧ ix = (j : Int) := by
        have h0 := HID.out
        rw [hf] at h0
        obtain ⟨j, a, b, c⟩ := h0
        exact ⟨j, a, b, by rw [c]; omega⟩
      subst hix
      have HLZ := Aside0.mk (show (l &&& x == 0) = true from by have := List.find?_some hf; exact this)
      have HLL := Aside0.mk (show l < 16777216 from by rw [← hjl]; exact HAL.out _ (getD_memN2 hj))
      have HT := Aside0.mk (show hitAll alts (k + 1) x wo = hitBits (hitAll alts k) x wo (bitsN (andN l wo)) by rw [HIT.out, hf])
      obtain ⟨ad, e, hk⟩ := Kd.at_int HRD.out (j : Int) (by omega) (by omega)
      subst e
      rw [show rd (ofN alts) (j : Int) = (l : Int) by rw [← hjl]; simp [rd, ofN, List.getD_eq_getElem?_getD, List.getElem?_eq_getElem hj], Int.toNat_natCast] at hk
      have hjz : (j : Int) < (alts.length : Int) := by omega
      have hnl : bits .andNot .i64 (l : Int) (wo : Int) = ((andN l wo : Nat) : Int) := i64_andNot (by have := HLL.out; omega) (by have := HWO.out; omega)
      have HY0 := Aside0.mk (show andN l wo < 16777216 from Nat.lt_of_le_of_lt (andN_le _ _) HLL.out)
      have HYX := Aside0.mk (show ∀ i, (andN l wo).testBit i = true → x.testBit i = false from fun i hi => and_zero_bit HLZ.out (andN_bit hi))
      have HTT := Aside0.mk (show o ++ hitAll alts (k + 1) x wo = o ++ hitBits (hitAll alts k) x wo (bitsN (andN l wo)) by rw [HT.out])
      generalize htot : o ++ hitAll alts (k + 1) x wo = tot at *
      clear HID HIT hf htot hj hjl HT HLZ HLL
      generalize andN l wo = y0 at *
      go_wp2
      clear hnl hk kh0 kh1 kx hjz
      go_loopg [8, 2] y0 (fun gg v8 v2 wi => ∃ (y wo : Nat) (oc : List Nat) (vi : Value), y ≤ gg ∧ v8 = .int .i64 (y : Int) ∧ v2 = .int .i64 (wo : Int) ∧ y < 16777216 ∧ Aside0 (wo < 16777216) ∧ Aside0 (oc.length ≤ 12) ∧ Aside0 (∀ i, y.testBit i = true → x.testBit i = false) ∧ Aside0 (tot = oc ++ hitBits (hitAll alts k) x wo (bitsN y)) ∧ Aside0 (HS w0 t0 hb (some ad) c alts vi oc wi) ∧ Aside0 (Fr t0 hb v w vi wi) ∧ Aside0 (wi.heap[w.heap.size]? = some (.cells #[.int .i64 (x : Int)] 3 (0, 0))) ∧ Aside0 (∀ k, vi.ownBlock = some k → k ≠ w.heap.size))
      case atStart => exact ⟨y0, wo, o, v, Nat.le_refl _, rfl, rfl, HY0.out, HWO, HOL, HYX, HTT, HS3, HF3, HBX3, HVX⟩
      case round =>
        clear HY0 HYX HTT HWO HOL HS3 HF3 HBX3 HVX HRD HATR
        obtain ⟨y, wo, oc, vi, hgg, rfl, rfl, hy, HWO, HOC, HYX, HTT, HS4, HF4, HBX4, HVX4⟩ := hrel
        by_cases h0 : y = 0
        · subst h0
          have HT := Aside0.mk (show tot = oc by rw [HTT.out, bitsN_zero]; simp [hitBits])
          clear HTT HYX
          go_wp2
          go_ret
          exact ⟨vi, ret_b (by rw [HT.out, decide_eq_true HOC.out]), by rw [HT.out, List.take_of_length_le (Nat.le_succ_of_le HOC.out)]; exact HS4.out, HF4.out⟩
        · have h0z : ¬ (y : Int) = 0 := by omega
          have hlow := i64_low h0 hy
          have hneg : wrap64 (-(y : Int)) = -(y : Int) := wr_id (by omega) (by omega)
          have HDR := Aside0.mk (i64_drop h0 hy)
          have HDL := Aside0.mk (drop_lt h0 hy)
          obtain ⟨hb1, _, hb3⟩ := lo_bits h0 hy
          have HXI := Aside0.mk (HYX.out _ hb1)
          have HOR := Aside0.mk (or_lt HX.out hb3)
          have HWR := Aside0.mk (or_lt HWO.out hb3)
          have HLN := Aside0.mk (or_len HXI.out hb3)
          have HPW := Aside0.mk (lo_pow h0 hy)
          have HYX2 := Aside0.mk (show ∀ i, (y &&& (y - 1)).testBit i = true → x.testBit i = false from fun i hi => HYX.out i (by rw [drop_bit h0 hy, Bool.and_eq_true] at hi; exact hi.1))
          have HTS := Aside0.mk (show tot = (oc ++ hitAll alts k (x ||| 2 ^ lo y) wo) ++ hitBits (hitAll alts k) x (wo ||| 2 ^ lo y) (bitsN (y &&& (y - 1))) by rw [HTT.out, bitsN_step h0 hy, hitBits, List.append_assoc])
          have hor := i64_or (a := x) (b := 2 ^ lo y) (by have := HX.out; omega) (by have := (HPW.out).1; omega)
          have HORW := Aside0.mk (i64_or (a := wo) (b := 2 ^ lo y) (by have := HWO.out; omega) (by have := (HPW.out).1; omega))
          have HREC := Aside0.mk ((IH.out) (x ||| 2 ^ lo y) wo vi oc wr HOR.out HWO.out (by rw [HLN.out]; have := HKL.out; omega) HOC.out HS4.out)
          have kx : wr.cell? ⟨w.heap.size, 0, none⟩ = some (.int .i64 (x : Int)) := (blk_cell HBX4.out 0).trans rfl
          clear hb1 hb3 HTT HYX h0 HLN
          generalize hitAll alts k (x ||| 2 ^ lo y) wo = sub at *
          generalize 2 ^ lo y = q at *
          go_wp2_with fail
          refine (HREC.out).mono ?_
          rintro E W5 ⟨v5, rfl, HS5, HF5⟩
          have HS5' := Aside0.mk HS5
          have HF5' := Aside0.mk ((HF4.out).trans HF5)
          have HBX5 := Aside0.mk ((HF5.keep _ (blk_lt HBX4.out) (by have := HXB.out; omega) (.inr (fun e => HVX4.out _ e.symm rfl))).trans HBX4.out)
          have HVX5 := Aside0.mk (show ∀ k, v5.ownBlock = some k → k ≠ w.heap.size from fun k hk => by
            rcases HF5.own with e | ⟨b, e, hb⟩
            · rw [e] at hk; exact HVX4.out k hk
            · rw [e] at hk; injection hk with hk; have := blk_lt HBX4.out; omega)
          clear HS5 HF5 kx HREC HS4 HF4 HBX4 HVX4
          cases hq : decide ((oc ++ sub).length ≤ 12) with
          | false =>
            have HGT := Aside0.mk (show 13 ≤ (oc ++ sub).length from by have := of_decide_eq_false hq; omega)
            clear hq hor
            go_wp2
            go_ret
            refine ⟨v5, ret_b ?_, ?_, HF5'.out⟩
            · rw [HTS.out, List.length_append, decide_eq_false (by have := HGT.out; omega)]
            · rw [HTS.out, List.take_append_of_le_length HGT.out]; exact HS5'.out
          | true =>
            have HLE := Aside0.mk (show (oc ++ sub).length ≤ 12 from of_decide_eq_true hq)
            have HS6 := Aside0.mk (show HS w0 t0 hb (some ad) c alts v5 (oc ++ sub) W5 from by have := HS5'.out; rw [List.take_of_length_le (Nat.le_succ_of_le HLE.out)] at this; exact this)
            have hdrop := HDR.out
            have horw := HORW.out
            clear hq hor HS5'
            go_wp2
            go_roundg (y &&& (y - 1))
            case measure => have := HDL.out; omega
            case rel => exact ⟨y &&& (y - 1), wo ||| q, oc ++ sub, v5, Nat.le_refl _, rfl, rfl, by have := HDL.out; omega, HWR, HLE, HYX2, HTS, HS6, HF5', HBX5, HVX5⟩
end Go.Proofs.YtbmcigakiibncaaGreatDoor.H
namespace Go.Proofs.YtbmcigakiibncaaGreatDoor.H
open Go.RowKit Go.Proofs.YtbmcigakiibncaaGreatDoorW.PrintWords Go.Proofs.YtbmcigakiibncaaGreatDoorW.PrintLast Go.Proofs.YtbmcigakiibncaaGreatDoorW.PrintMore
set_option linter.unusedVariables false
set_option linter.unusedSimpArgs false
def Gr (w w' : World) : Prop := ∃ q os, w' = Sort.grow (w.drewN q) os
theorem Gr.refl (w : World) : Gr w w := ⟨0, #[], by simp [World.drewN]⟩
theorem Gr.trans {a b c : World} (h : Gr a b) (k : Gr b c) : Gr a c := by
  obtain ⟨q, os, rfl⟩ := h
  obtain ⟨r, ps, rfl⟩ := k
  exact ⟨q + r, os ++ ps, by simp [Sort.grow, World.drewN, Nat.add_assoc, Array.append_assoc]⟩
theorem Gr.alloc {a b : World} (h : Gr a b) (o : Obj) : Gr a (b.alloc o) := h.trans ⟨0, #[o], by unfold Sort.grow World.drewN World.alloc; simp⟩
theorem Gr.drew {a b : World} (h : Gr a b) : Gr a b.drew := h.trans ⟨1, #[], by simp [World.drewN]⟩
theorem Gr.below {a b : World} (h : Gr a b) : Below a.heap.size a b := by
  obtain ⟨q, os, rfl⟩ := h
  exact ⟨rfl, rfl, rfl, by simp [Sort.grow, World.drewN], fun k hk => by simp [Sort.grow, World.drewN, Array.getElem?_append_left hk]⟩
set_option maxHeartbeats 2000000 in
theorem beforeG_calls (x y : Nd) (hx : smallN x) (hy : smallN y) (W : World) : Calls Tryz.prog 76 #[.agg #[.int .i64 x.f0, .int .i64 x.f1], .agg #[.int .i64 y.f0, .int .i64 y.f1]] W fun E w' => E = .returned (.int .i64 (befI x y)) ∧ Gr W w' := by
  obtain ⟨a1, a2, a3, a4⟩ := hx
  obtain ⟨b1, b2, b3, b4⟩ := hy
  have hG := ((Gr.refl W).alloc (.cells #[.int .i64 x.f0, .int .i64 x.f1] 83)).alloc (.cells #[.int .i64 y.f0, .int .i64 y.f1] 83)
  have hz1 := blk_alloc (blk_new W (.cells #[.int .i64 x.f0, .int .i64 x.f1] 83)) (.cells #[.int .i64 y.f0, .int .i64 y.f1] 83)
  have hz2 := blk_at2 W (.cells #[.int .i64 x.f0, .int .i64 x.f1] 83) (.cells #[.int .i64 y.f0, .int .i64 y.f1] 83)
  have HG := Aside0.mk hG
  clear hG
  go_enter Tryz.func76, Tryz.ntmps76
  go_upto_region 1 with (fail)
  generalize ((W.alloc (.cells #[.int .i64 x.f0, .int .i64 x.f1] 83)).alloc (.cells #[.int .i64 y.f0, .int .i64 y.f1] 83)) = W5 at *
  have hk0 : W5.cell? ⟨W.heap.size, 0, none⟩ = some (.int .i64 x.f0) := (blk_cell hz1 0).trans rfl
  have hk1 : W5.cell? ⟨W.heap.size, 1, none⟩ = some (.int .i64 x.f1) := (blk_cell hz1 1).trans rfl
  have hk2 : W5.cell? ⟨W.heap.size + 1, 0, none⟩ = some (.int .i64 y.f0) := (blk_cell hz2 0).trans rfl
  have hk3 : W5.cell? ⟨W.heap.size + 1, 1, none⟩ = some (.int .i64 y.f1) := (blk_cell hz2 1).trans rfl
  have HGD := Aside0.mk ((HG.out).drew)
  clear hz1 hz2
  have w1 : wrap64 (x.f0 - y.f0) = x.f0 - y.f0 := wr_id (by omega) (by omega)
  have w2 : wrap64 (x.f1 - y.f1) = x.f1 - y.f1 := wr_id (by omega) (by omega)
  have HV := Aside0.mk (show befI x y = if x.f0 = y.f0 then x.f1 - y.f1 else x.f0 - y.f0 from rfl)
  by_cases h : x.f0 = y.f0
  · have d1 : (x.f0 == y.f0) = true := by simpa using h
    have d2 : (x.f0 != y.f0) = false := by simpa using h
    have HV2 := Aside0.mk (show befI x y = x.f1 - y.f1 by rw [HV.out, if_pos h])
    have H := Aside0.mk h
    clear h
    go_wp2
    first
      | (go_ret; exact ⟨by rw [HV2.out]; rfl, HG.out⟩)
  · have d1 : (x.f0 == y.f0) = false := by simpa using h
    have d2 : (x.f0 != y.f0) = true := by simpa using h
    have HV2 := Aside0.mk (show befI x y = x.f0 - y.f0 by rw [HV.out, if_neg h])
    have H := Aside0.mk h
    clear h
    go_wp2
    first
      | (go_ret; exact ⟨by rw [HV2.out]; rfl, HG.out⟩)
set_option maxHeartbeats 4000000 in
set_option maxRecDepth 100000 in
theorem cmpG_calls (a b : List Nd) (A : Option Addr) (ca : Nat) (B : Option Addr) (cb : Nat) (w : World) (hra : Kd.C Q.k83 w A a.length a) (hrb : Kd.C Q.k83 w B b.length b) (ha : a.length ≤ 24) (hxa : ∀ x ∈ a, smallN x) (hxb : ∀ x ∈ b, smallN x) :
    Calls Tryz.prog 109 #[.slice A a.length ca, .slice B b.length cb, .func (.func 76) #[] #[]] w fun e w' => e = .returned (.int .i64 (cmpL a b)) ∧ Gr w w' := by
  have HRA := Aside0.mk hra
  have HRB := Aside0.mk hrb
  have HL := Aside0.mk ha
  have HXA := Aside0.mk hxa
  have HXB := Aside0.mk hxb
  clear hra hrb ha hxa hxb
  go_enter Tryz.func109, Tryz.ntmps109
  go_wp2
  go_loopg [13] a.length (fun gg v13 wi => ∃ j : Nat, a.length - j ≤ gg ∧ v13 = .int .i64 j ∧ j ≤ a.length ∧ j ≤ b.length ∧ Aside0 (Gr w wi) ∧ Aside0 (cmpL (a.drop j) (b.drop j) = cmpL a b))
  case atStart => exact ⟨0, by omega, rfl, by omega, by omega, ⟨Gr.refl _⟩, ⟨rfl⟩⟩
  case round =>
    obtain ⟨j, hgg, rfl, hj, hjb, HB, HE⟩ := hrel
    by_cases hlt : j < a.length
    · have hltz : (j : Int) < (a.length : Int) := by omega
      obtain ⟨ad, e, hx0, hx1⟩ := at_need HRA.out j hlt
      subst e
      replace hx0 := pw_cell_below (HB.out).below hx0
      replace hx1 := pw_cell_below (HB.out).below hx1
      have h1 := HXA.out _ (getD_memN hlt)
      by_cases hlb : j < b.length
      · have hlbz : ¬ (j : Int) ≥ (b.length : Int) := by omega
        have hlb2 : (j : Int) < (b.length : Int) := by omega
        obtain ⟨bd, e, hy0, hy1⟩ := at_need HRB.out j hlb
        subst e
        replace hy0 := pw_cell_below (HB.out).below hy0
        replace hy1 := pw_cell_below (HB.out).below hy1
        have h2 := HXB.out _ (getD_memN hlb)
        have hst := cmpL_drop hlt hlb
        rw [HE.out] at hst
        generalize a.getD j zN = x at *
        generalize b.getD j zN = y at *
        have HBe := Aside0.mk fun W : World => beforeG_calls x y h1 h2 W
        clear h1 h2
        generalize befI x y = v at *
        have HST := Aside0.mk hst
        clear hst
        have hal := ((Gr.refl wr).alloc (.cells #[.int .i64 x.f0, .int .i64 x.f1] 83)).alloc (.cells #[.int .i64 y.f0, .int .i64 y.f1] 83)
        have hz1 := blk_alloc (blk_new wr (.cells #[.int .i64 x.f0, .int .i64 x.f1] 83)) (.cells #[.int .i64 y.f0, .int .i64 y.f1] 83)
        have hz2 := blk_at2 wr (.cells #[.int .i64 x.f0, .int .i64 x.f1] 83) (.cells #[.int .i64 y.f0, .int .i64 y.f1] 83)
        have hy0' := pw_cell_below (below_alloc (Below.refl wr.heap.size wr) (.cells #[.int .i64 x.f0, .int .i64 x.f1] 83)) hy0
        have hy1' := pw_cell_below (below_alloc (Below.refl wr.heap.size wr) (.cells #[.int .i64 x.f0, .int .i64 x.f1] 83)) hy1
        clear hy0 hy1
        have HB2 := Aside0.mk ((HB.out).trans hal)
        clear hal
        go_upto_region 7 with (fail)
        generalize ((wr.alloc (.cells #[.int .i64 x.f0, .int .i64 x.f1] 83)).alloc (.cells #[.int .i64 y.f0, .int .i64 y.f1] 83)) = w5 at *
        have hk0 : w5.cell? ⟨wr.heap.size, 0, none⟩ = some (.int .i64 x.f0) := (blk_cell hz1 0).trans rfl
        have hk1 : w5.cell? ⟨wr.heap.size, 1, none⟩ = some (.int .i64 x.f1) := (blk_cell hz1 1).trans rfl
        have hk2 : w5.cell? ⟨wr.heap.size + 1, 0, none⟩ = some (.int .i64 y.f0) := (blk_cell hz2 0).trans rfl
        have hk3 : w5.cell? ⟨wr.heap.size + 1, 1, none⟩ = some (.int .i64 y.f1) := (blk_cell hz2 1).trans rfl
        clear hz1 hz2 hx0 hx1 hy0' hy1'
        by_cases hv : v = 0
        · subst hv
          have hst2 := HST.out
          rw [if_neg (by simp)] at hst2
          have HST2 := Aside0.mk hst2
          clear hst2 HST
          go_wp2_with fail
          refine (HBe.out _).mono ?_
          rintro E w6 ⟨rfl, hb⟩
          have HB6 := Aside0.mk ((HB2.out).trans hb)
          clear hb hk0 hk1 hk2 hk3 HB2
          go_wp2
          go_roundg (a.length - (j + 1))
          case measure => omega
          case rel => exact ⟨j + 1, by omega, by rw [wrap_succ (by omega) (by have := HL.out; omega)]; rfl, by omega, by omega, HB6, ⟨HST2.out.symm⟩⟩
        · have d1 : (v == 0) = false := beq_eq_false_iff_ne.2 hv
          have d2 : (v != 0) = true := bne_iff_ne.2 hv
          have hst2 := HST.out
          rw [if_pos hv] at hst2
          have HST2 := Aside0.mk hst2
          clear hst2 HST hv
          go_wp2_with fail
          refine (HBe.out _).mono ?_
          rintro E w6 ⟨rfl, hb⟩
          have HB6 := Aside0.mk ((HB2.out).trans hb)
          clear hb hk0 hk1 hk2 hk3 HB2
          go_wp2
          go_ret
          exact ⟨by rw [HST2.out]; rfl, HB6.out⟩
      · have hlbz : (j : Int) ≥ (b.length : Int) := by omega
        have hv := HE.out
        rw [show b.drop j = [] from List.drop_eq_nil_of_le (by omega), cmpL_end _ (by intro h; have := congrArg List.length h; rw [List.length_drop, List.length_nil] at this; omega)] at hv
        have HV := Aside0.mk hv
        clear hv h1
        generalize a.getD j zN = x at *
        have hal := (Gr.refl wr).alloc (.cells #[.int .i64 x.f0, .int .i64 x.f1] 83)
        have HB2 := Aside0.mk ((HB.out).trans hal)
        clear hal
        go_wp2
        go_ret
        exact ⟨by rw [← HV.out]; rfl, HB2.out⟩
    · have hltz : ¬ (j : Int) < (a.length : Int) := by omega
      have hje : j = a.length := by omega
      have hv := HE.out
      rw [hje, List.drop_length, cmpL_nil, List.length_drop] at hv
      by_cases hab : a.length < b.length
      · have habz : (a.length : Int) < (b.length : Int) := by omega
        rw [if_neg (by omega)] at hv
        have HV := Aside0.mk hv
        clear hv hje
        go_wp2
        go_ret
        exact ⟨by rw [← HV.out]; rfl, HB.out⟩
      · have habz : ¬ (a.length : Int) < (b.length : Int) := by omega
        rw [if_pos (by omega)] at hv
        have HV := Aside0.mk hv
        clear hv hje
        go_wp2
        go_ret
        exact ⟨by rw [← HV.out]; rfl, HB.out⟩
theorem listsG_calls (a b : List Nd) (A : Option Addr) (ca : Nat) (B : Option Addr) (cb : Nat) (w : World) (hra : Kd.C Q.k83 w A a.length a) (hrb : Kd.C Q.k83 w B b.length b) (ha : a.length ≤ 24) (hxa : ∀ x ∈ a, smallN x) (hxb : ∀ x ∈ b, smallN x) :
    Calls Tryz.prog 78 #[.slice A a.length ca, .slice B b.length cb] w fun e w' => e = .returned (.int .i64 (cmpL a b)) ∧ Gr w w' := by
  have H := Aside0.mk (cmpG_calls a b A ca B cb w hra hrb ha hxa hxb)
  clear hra hrb ha hxa hxb
  go_enter Tryz.func78, Tryz.ntmps78
  go_wp2_with fail
  refine (H.out).mono ?_
  rintro E w2 ⟨rfl, hb⟩
  have HB := Aside0.mk hb
  clear hb H
  go_wp2
  go_ret
  exact ⟨rfl, HB.out⟩
end Go.Proofs.YtbmcigakiibncaaGreatDoor.H
namespace Go.Proofs.YtbmcigakiibncaaGreatDoor.H
open Go.RowKit Go.Proofs.YtbmcigakiibncaaGreatDoorW.PrintWords Go.Proofs.YtbmcigakiibncaaGreatDoorW.PrintLast Go.Proofs.YtbmcigakiibncaaGreatDoorW.PrintMore
set_option linter.unusedVariables false
set_option linter.unusedSimpArgs false
theorem befI_zero {x y : Nd} (h : befI x y = 0) : x = y := by
  rcases x with ⟨a, b⟩
  rcases y with ⟨c, d⟩
  unfold befI at h
  simp only at h
  split at h
  · rename_i e; have h2 : b = d := by omega
    rw [show a = c from e, h2]
  · rename_i e; exact absurd (by omega) e
theorem befI_self (x : Nd) : befI x x = 0 := by unfold befI; rw [if_pos rfl]; omega
theorem befI_neg {x y : Nd} : befI x y < 0 ↔ 0 < befI y x := by
  unfold befI
  by_cases h : x.f0 = y.f0
  · rw [if_pos h, if_pos h.symm]; omega
  · rw [if_neg h, if_neg (fun e => h e.symm)]; omega
theorem befI_trans {x y z : Nd} (h : befI x y < 0) (k : befI y z < 0) : befI x z < 0 := by
  unfold befI at *
  split at h <;> split at k <;> split <;> omega
theorem cmpL_self : ∀ a : List Nd, cmpL a a = 0
  | [] => rfl
  | x :: a => by rw [cmpL, if_neg (by rw [befI_self]; simp)]; exact cmpL_self a
theorem cmpL_zero : ∀ {a b : List Nd}, cmpL a b = 0 → a = b
  | [], [], _ => rfl
  | [], _ :: _, h => by simp [cmpL] at h
  | _ :: _, [], h => by simp [cmpL] at h
  | x :: a, y :: b, h => by
    rw [cmpL] at h
    by_cases e : befI x y = 0
    · rw [if_neg (by simpa using e)] at h
      rw [befI_zero e, cmpL_zero h]
    · rw [if_pos e] at h; exact absurd h e
theorem cmpL_neg : ∀ {a b : List Nd}, cmpL a b < 0 ↔ 0 < cmpL b a
  | [], [] => by simp [cmpL]
  | [], _ :: _ => by simp [cmpL]
  | _ :: _, [] => by simp [cmpL]
  | x :: a, y :: b => by
    rw [cmpL, cmpL]
    by_cases e : befI x y = 0
    · have e2 : befI y x = 0 := by rw [befI_zero e]; exact befI_self _
      rw [if_neg (by simpa using e), if_neg (by simpa using e2)]
      exact cmpL_neg
    · have e2 : befI y x ≠ 0 := fun h => e (by rw [befI_zero h]; exact befI_self _)
      rw [if_pos e, if_pos e2]
      exact befI_neg
theorem cmpL_trans : ∀ {a b c : List Nd}, cmpL a b < 0 → cmpL b c < 0 → cmpL a c < 0
  | [], [], _, h, _ => by simp [cmpL] at h
  | [], _ :: _, [], _, k => by simp [cmpL] at k
  | [], _ :: _, _ :: _, _, _ => by simp [cmpL]
  | _ :: _, [], _, h, _ => by simp [cmpL] at h
  | _ :: _, _ :: _, [], _, k => by simp [cmpL] at k
  | x :: a, y :: b, z :: c, h, k => by
    rw [cmpL] at h k ⊢
    by_cases e : befI x y = 0
    · rw [if_neg (by simpa using e)] at h
      have exy := befI_zero e
      subst exy
      by_cases e2 : befI x z = 0
      · rw [if_neg (by simpa using e2)] at k ⊢
        exact cmpL_trans h k
      · rw [if_pos e2] at k ⊢; exact k
    · rw [if_pos e] at h
      by_cases e2 : befI y z = 0
      · have eyz := befI_zero e2
        subst eyz
        rw [if_pos e]; exact h
      · rw [if_pos e2] at k
        have := befI_trans h k
        rw [if_pos (by omega)]; exact this
def leL (a b : List Nd) : Prop := ¬ cmpL b a < 0
theorem leL_iff {a b : List Nd} : leL a b ↔ cmpL a b < 0 ∨ a = b := by
  unfold leL
  constructor
  · intro h
    by_cases e : cmpL b a = 0
    · exact .inr (cmpL_zero e).symm
    · exact .inl (cmpL_neg.2 (by omega))
  · rintro (h | rfl)
    · have := cmpL_neg.1 h; omega
    · rw [cmpL_self]; omega
theorem leL_trans {a b c : List Nd} (h : leL a b) (k : leL b c) : leL a c := by
  rw [leL_iff] at *
  rcases h with h | rfl
  · rcases k with k | rfl
    · exact .inl (cmpL_trans h k)
    · exact .inl h
  · exact k
theorem leL_anti {a b : List Nd} (h : leL a b) (k : leL b a) : a = b := by
  rw [leL_iff] at h
  rcases h with h | h
  · exact absurd h k
  · exact h
def insL (x : List Nd) : List (List Nd) → List (List Nd)
  | [] => [x]
  | y :: r => if cmpL y x < 0 then y :: insL x r else x :: y :: r
def sortL : List (List Nd) → List (List Nd)
  | [] => []
  | x :: r => insL x (sortL r)
theorem insL_perm (x : List Nd) : ∀ l, (insL x l).Perm (x :: l)
  | [] => List.Perm.refl _
  | y :: r => by
    rw [insL]
    split
    · exact ((insL_perm x r).cons y).trans (List.Perm.swap x y r)
    · exact List.Perm.refl _
theorem sortL_perm : ∀ l, (sortL l).Perm l
  | [] => List.Perm.refl _
  | x :: r => (insL_perm x (sortL r)).trans ((sortL_perm r).cons x)
theorem insL_sorted (x : List Nd) : ∀ {l : List (List Nd)}, l.Pairwise leL → (insL x l).Pairwise leL
  | [], _ => List.pairwise_singleton _ _
  | y :: r, h => by
    rw [insL]
    have hy := (List.pairwise_cons.1 h).1
    have hr := (List.pairwise_cons.1 h).2
    split
    · rename_i hc
      refine List.pairwise_cons.2 ⟨fun z hz => ?_, insL_sorted x hr⟩
      rcases List.mem_cons.1 ((insL_perm x r).mem_iff.1 hz) with rfl | hz
      · exact leL_iff.2 (.inl hc)
      · exact hy z hz
    · rename_i hc
      refine List.pairwise_cons.2 ⟨fun z hz => ?_, h⟩
      rcases List.mem_cons.1 hz with rfl | hz
      · exact hc
      · exact leL_trans hc (hy z hz)
theorem sortL_sorted : ∀ l, (sortL l).Pairwise leL
  | [] => List.Pairwise.nil
  | x :: r => insL_sorted x (sortL_sorted r)
theorem sorted_one : ∀ {l m : List (List Nd)}, l.Perm m → l.Pairwise leL → m.Pairwise leL → l = m
  | [], m, h, _, _ => (List.Perm.nil_eq h)
  | a :: l, [], h, _, _ => absurd h.length_eq (by simp)
  | a :: l, b :: m, h, h1, h2 => by
    have e : a = b := by
      have ha : a ∈ b :: m := h.mem_iff.1 (List.mem_cons_self ..)
      have hb : b ∈ a :: l := h.mem_iff.2 (List.mem_cons_self ..)
      rcases List.mem_cons.1 ha with e | ha
      · exact e
      rcases List.mem_cons.1 hb with e | hb
      · exact e.symm
      exact leL_anti ((List.pairwise_cons.1 h1).1 b hb) ((List.pairwise_cons.1 h2).1 a ha)
    subst e
    rw [sorted_one h.cons_inv (List.pairwise_cons.1 h1).2 (List.pairwise_cons.1 h2).2]
end Go.Proofs.YtbmcigakiibncaaGreatDoor.H
namespace Go.Proofs.YtbmcigakiibncaaGreatDoor.H
open Go.RowKit Go.Proofs.YtbmcigakiibncaaGreatDoorW.PrintWords Go.Proofs.YtbmcigakiibncaaGreatDoorW.PrintLast Go.Proofs.YtbmcigakiibncaaGreatDoorW.PrintMore
set_option linter.unusedVariables false
set_option linter.unusedSimpArgs false
theorem heap_sortedG {enc : Nat → Value} {w : World} {g n : Nat} {os : Array Obj} {cur : Array Value} {e : TypeId} {fr : Nat × Nat} (d : Array Nat) (hb : w.heap[g]? = some (.cells cur e fr)) :
    (sortWorld enc w g 0 n d os).heap[g]? = some (.cells (Sort.putCells enc 0 d cur) e fr) := by
  have hg : g < w.heap.size := (Array.getElem?_eq_some_iff.1 hb).1
  unfold sortWorld
  rw [Sort.heap_grow_old _ _ (by simpa using hg)]
  simp [Sort.putRow, Sort.mapBlock, Sort.ahead, Array.getElem?_modify, hb, Sort.onCells]
theorem grownBy_sortedG {enc : Nat → Value} {w : World} {g n : Nat} {os : Array Obj} (d : Array Nat) : w.grownBy (sortWorld enc w g 0 n d os) (some g) := by
  refine ⟨rfl, rfl, rfl, by simp [sortWorld, Sort.grow], fun k hk hne => ?_⟩
  unfold sortWorld
  rw [Sort.heap_grow_old _ _ (by simpa using hk)]
  have : g ≠ k := fun e => hne (by rw [e])
  simp [Sort.putRow, Sort.mapBlock, Sort.ahead, Array.getElem?_modify, this]
theorem take_putCellsG {enc : Nat → Value} (cur : Array Value) (d : Array Nat) (h : d.size ≤ cur.size) : (Sort.putCells enc 0 d cur).toList.take d.size = d.toList.map enc := by
  apply List.ext_getElem?
  intro j
  by_cases hj : j < d.size
  · rw [List.getElem?_take_of_lt hj, Array.getElem?_toList]
    simp [Sort.putCells, hj, show j < cur.size by omega]
  · rw [List.getElem?_take_eq_none (by omega), List.getElem?_eq_none (by simp; omega)]
theorem getD_memY {α : Type} {l : List α} {i : Nat} (d : α) (h : i < l.length) : l.getD i d ∈ l := by
  rw [List.getD_eq_getElem?_getD, List.getElem?_eq_getElem h]; exact List.getElem_mem h
theorem eg78 : ∀ args w, (callFunc 78 args).run Tryz.prog w = .ok (.enter 78 args) w := enters_of Tryz.func78 (by kernel_rfl) rfl
def SortE (base : Nat) (ok : Nat → Prop) (v : Value) (D : List (List Nd)) (w : World) (e : Ending) (w' : World) : Prop :=
  e = .returned (.tuple #[]) ∧ kA1.R 69 w' base ok v (sortL D) ∧ w.grownBy w' v.ownBlock
theorem swoL (f : Nat → List Nd) : Sort.SWO (ltOf fun i j => cmpL (f i) (f j)) where
  irrefl x := by show decide (cmpL (f x) (f x) < 0) = false; rw [cmpL_self]; rfl
  trans x y z h1 h2 := by
    unfold ltOf at *
    rw [decide_eq_true_eq] at *
    exact cmpL_trans h1 h2
  ntrans x y z h1 h2 := by
    unfold ltOf at *
    rw [decide_eq_false_iff_not] at *
    exact leL_trans h2 h1
theorem sortG_calls (base : Nat) (ok : Nat → Prop) (v : Value) (D : List (List Nd)) (w : World) (hR : kA1.R 69 w base ok v D) (hD : ∀ l ∈ D, l.length ≤ 24 ∧ ∀ x ∈ l, smallN x) (hn : D.length ≤ 100) :
    Calls Tryz.prog 97 #[v, .func (.func 78) #[] #[]] w (SortE base ok v D w) := by
  have hR0 := hR
  obtain ⟨hok, inner, ho, hr⟩ := hR
  rcases ho.2 with ⟨rfl, h0⟩ | ⟨g, cap, cur, rfl, hb, hh, hnc, hcm, hcs, htake⟩
  · obtain rfl : D = [] := List.length_eq_zero_iff.1 h0
    have hN := AnyF.slices_SortFunc_none (P := Tryz.prog) (ρ := Tryz.sortN_ren) { Tryz.sortN with } none 0 (.func (.func 78) #[] #[]) w
    refine hN.mono ?_
    rintro e w' ⟨rfl, rfl⟩
    exact ⟨rfl, hR0, ⟨rfl, rfl, rfl, Nat.le_refl _, fun _ _ _ => rfl⟩⟩
  · have hsz : kA1.sz = 1 := rfl
    rw [hsz] at htake hcs hr
    rw [Nat.mul_one] at htake hcs
    have hil : inner.length = D.length := by have := hr.1; rw [Nat.mul_one] at this; exact this
    have hM : ∀ i, Kd.R Q.k83 83 w base (fun k => ok k ∧ k ≠ g) (inner.getD i (.slice none 0 0)) (D.getD i []) := by
      intro i
      by_cases hi : i < D.length
      · have h1 := hr.2 i (D.getD i []) (by rw [List.getD_eq_getElem?_getD, List.getElem?_eq_getElem hi]; rfl)
        obtain ⟨u, hu, hR⟩ := h1
        have e : inner.getD i (.slice none 0 0) = u := by
          have hi' : i < inner.length := by omega
          rw [Nat.mul_one, List.drop_eq_getElem_cons hi', List.take_succ_cons, List.take_zero] at hu
          injection hu with hu _
          rw [List.getD_eq_getElem?_getD, List.getElem?_eq_getElem hi']
          exact hu
        rw [e]
        exact Kd.R_mono hR (fun k hk => ⟨hk.1, fun e => hk.2 (by rw [e]; rfl)⟩)
      · rw [List.getD_eq_getElem?_getD, List.getElem?_eq_none (by omega), List.getD_eq_getElem?_getD, List.getElem?_eq_none (by omega)]
        exact Kd.R_nil _ _ _ _ _
    have hlist : ∀ i, (D.getD i []).length ≤ 24 ∧ ∀ x ∈ D.getD i [], smallN x := by
      intro i
      by_cases hi : i < D.length
      · exact hD _ (getD_memY [] hi)
      · rw [List.getD_eq_getElem?_getD, List.getElem?_eq_none (by omega)]
        exact ⟨by simp, fun x hx => by cases hx⟩
    have hgl := blk_lt hh
    let enc : Nat → Value := fun i => inner.getD i (.slice none 0 0)
    let lst : Nat → List Nd := fun i => D.getD i []
    have hmove : ∀ m os (dk : Array Nat) i, Kd.R Q.k83 83 (sortWorld enc w g 0 m dk os) base (fun k => ok k ∧ k ≠ g) (enc i) (lst i) := fun m os dk i =>
      R_same (hM i) (fun k hk hlt => (grownBy_sortedG dk).block k hlt (fun e => hk.2 (Option.some.inj e)))
    have hcmp : CmpLays1 Tryz.prog 78 #[] enc (fun i j => cmpL (lst i) (lst j)) g 0 (Array.range D.length).size w := by
      intro m os dk hs x y
      have hx := hmove m os dk x
      have hy := hmove m os dk y
      obtain ⟨A, ca, ea⟩ := Kd.R_slice hx
      obtain ⟨B, cb, eb⟩ := Kd.R_slice hy
      rw [ea] at hx ⊢
      rw [eb] at hy ⊢
      exact listsG_calls (lst x) (lst y) A ca B cb _ (Kd.R_reads' hx).2.2 (Kd.R_reads' hy).2.2 (hlist x).1 (hlist x).2 (hlist y).2
    have hH : Sort.Holds enc w g 0 (Array.range D.length) := by
      intro j hj
      have hj' : j < D.length := by simpa using hj
      refine ⟨?_, blk_frozen hh _⟩
      rw [Nat.zero_add, blk_cell hh j]
      have h1 : (cur.toList.take D.length)[j]? = inner[j]? := by rw [htake]
      rw [List.getElem?_take_of_lt hj', Array.getElem?_toList] at h1
      rw [h1]
      simp [enc, hj', List.getD_eq_getElem?_getD, show j < inner.length by omega]
    have h := Any.slices_SortFunc (P := Tryz.prog) (ρ := Tryz.sortN_ren) Tryz.sortN enc (fun i => by obtain ⟨A, c, e⟩ := Kd.R_slice (hM i); show (inner.getD i (.slice none 0 0)).oneCell' = true; rw [e]; rfl) _ (swoL lst) 78 #[] g 0 cap (Array.range D.length) w eg78 hcmp hH hgl (by simp; omega)
    rw [Array.size_range] at h
    refine h.mono ?_
    rintro e w' ⟨rfl, d', n, os, hp, hs, rfl⟩
    have hds : d'.size = D.length := by have := hp.1; rw [this, Array.size_range]
    have hperm : (d'.toList.map lst).Perm D := by
      have h1 := hp.2.2
      rw [show d'.extract 0 D.length = d' by rw [← hds]; exact Array.extract_size, show (Array.range D.length).extract 0 D.length = Array.range D.length by rw [Array.extract_eq_self_of_le (by simp)]] at h1
      have h2 := h1.map lst
      refine h2.trans (List.Perm.of_eq ?_)
      apply List.ext_getElem?
      intro i
      by_cases hi : i < D.length
      · simp [lst, hi, List.getD_eq_getElem?_getD]
      · rw [List.getElem?_eq_none (by simp; omega), List.getElem?_eq_none (by omega)]
    have hsort : (d'.toList.map lst).Pairwise leL := by
      rw [List.pairwise_iff_getElem]
      intro i j hi hj hij
      rw [List.length_map, Array.length_toList] at hi hj
      have h1 := hs i j (Nat.zero_le _) hij (by omega)
      unfold ltOf at h1
      rw [decide_eq_false_iff_not, getElem!_pos d' i hi, getElem!_pos d' j hj] at h1
      simpa [leL] using h1
    have hD2 : d'.toList.map lst = sortL D := sorted_one (hperm.trans (sortL_perm D).symm) hsort (sortL_sorted D)
    have hlen : (d'.toList.map lst).length = D.length := by simp [hds]
    refine ⟨rfl, ?_, grownBy_sortedG d'⟩
    rw [← hD2]
    refine ⟨hok, d'.toList.map enc, ⟨?_, .inr ⟨g, cap, _, ?_, hb, heap_sortedG d' hh, ?_, hcm, ?_, ?_⟩⟩, ?_, ?_⟩
    · simp [hsz]
    · rw [hlen]
    · rw [hlen]; exact hnc
    · rw [hsz, Nat.mul_one]; simp [Sort.putCells, hcs]
    · rw [hsz, Nat.mul_one, hlen, ← hds]
      exact take_putCellsG cur d' (by omega)
    · simp [hsz]
    · intro j p hj
      obtain ⟨hjl, hjp⟩ := List.getElem?_eq_some_iff.1 hj
      rw [List.length_map, Array.length_toList] at hjl
      have hjl2 : j < (d'.toList.map enc).length := by simpa using hjl
      refine ⟨enc d'[j], ?_, ?_⟩
      · rw [hsz, Nat.mul_one, List.drop_eq_getElem_cons hjl2, List.take_succ_cons, List.take_zero]
        simp
      · rw [← hjp, List.getElem_map, Array.getElem_toList]
        exact Kd.R_mono (hmove n os d' d'[j]) (fun k hk => ⟨hk.1, fun e => hk.2 (Option.some.inj e)⟩)
end Go.Proofs.YtbmcigakiibncaaGreatDoor.H
namespace Go.Proofs.YtbmcigakiibncaaGreatDoor.H
open Go.RowKit Go.Proofs.YtbmcigakiibncaaGreatDoorW.PrintWords Go.Proofs.YtbmcigakiibncaaGreatDoorW.PrintLast Go.Proofs.YtbmcigakiibncaaGreatDoorW.PrintMore
set_option linter.unusedVariables false
set_option linter.unusedSimpArgs false
def spotN (x : Nd) : Nat := (x.f0 * 6 + x.f1).toNat
def maskF (m : Nat) (l : List Nd) : Nat := l.foldl (fun m x => m ||| 2 ^ spotN x) m
def maskN (l : List Nd) : Nat := maskF 0 l
def needI (i : Nat) : Nd := ⟨((i / 6 : Nat) : Int), ((i % 6 : Nat) : Int)⟩
def unN (m : Nat) : List Nd := (bitsN m).map needI
def hitsOf (al : List (List Nd)) : List Nat := hitAll (al.map maskN) 25 0 0
def dualD (al : List (List Nd)) : List (List Nd) := sortL (((hitsOf al).take 13).map unN)
def dualOk (al : List (List Nd)) : Bool := decide ((hitsOf al).length ≤ 12)
def InN (x : Nd) : Prop := 0 ≤ x.f0 ∧ x.f0 < 4 ∧ 0 ≤ x.f1 ∧ x.f1 < 6
theorem spot_lt {x : Nd} (h : InN x) : spotN x < 24 ∧ x.f0 * 6 + x.f1 = (spotN x : Int) := by unfold InN at h; unfold spotN; omega
theorem maskF_lt : ∀ (l : List Nd) (m : Nat), m < 16777216 → (∀ x ∈ l, InN x) → maskF m l < 16777216
  | [], m, hm, _ => hm
  | x :: r, m, hm, h => maskF_lt r _ (or_lt hm (spot_lt (h x (List.mem_cons_self ..))).1) (fun y hy => h y (List.mem_cons_of_mem _ hy))
theorem maskN_lt {l : List Nd} (h : ∀ x ∈ l, InN x) : maskN l < 16777216 := maskF_lt l 0 (by decide) h
theorem bits_lt {m i : Nat} (h : i < (bitsN m).length) : (bitsN m).getD i 0 < 24 := by
  have h1 : (bitsN m).getD i 0 ∈ bitsN m := getD_memY 0 h
  exact (bitsN_mem.1 h1).1
theorem unN_small (m : Nat) : (unN m).length ≤ 24 ∧ ∀ x ∈ unN m, InN x := by
  refine ⟨by unfold unN; rw [List.length_map]; exact bitsN_len m, fun x hx => ?_⟩
  unfold unN at hx
  obtain ⟨i, hi, rfl⟩ := List.mem_map.1 hx
  have := (bitsN_mem.1 hi).1
  unfold InN needI
  simp only
  omega
theorem InN.small {x : Nd} (h : InN x) : smallN x := by unfold InN at h; unfold smallN; omega
theorem or_spot {m : Nat} {x : Nd} (hm : m < 16777216) (h : InN x) : bits .or .i64 (m : Int) (wrap64 (2 ^ (x.f0 * 6 + x.f1).toNat)) = ((m ||| 2 ^ spotN x : Nat) : Int) := by
  have h1 := (spot_lt h).1
  have h2 : 2 ^ spotN x < 16777216 := Nat.lt_of_lt_of_le (Nat.pow_lt_pow_right (by decide) h1) (by decide)
  have e : ((2 : Int) ^ (x.f0 * 6 + x.f1).toNat) = ((2 ^ spotN x : Nat) : Int) := by unfold spotN; push_cast; rfl
  rw [e]
  generalize 2 ^ spotN x = q at *
  rw [wr_id (by omega) (by omega)]
  exact i64_or (by omega) (by omega)
theorem hitBits_lt {rec : Nat → Nat → List Nat} {x : Nat} (h : ∀ i wo, i < 24 → ∀ m ∈ rec (x ||| 2 ^ i) wo, m < 16777216) : ∀ (l : List Nat) (wo : Nat), (∀ i ∈ l, i < 24) → ∀ m ∈ hitBits rec x wo l, m < 16777216
  | [], _, _, m, hm => by simp [hitBits] at hm
  | i :: r, wo, hl, m, hm => by
    rw [hitBits] at hm
    rcases List.mem_append.1 hm with hm | hm
    · exact h i wo (hl i (List.mem_cons_self ..)) m hm
    · exact hitBits_lt h r _ (fun j hj => hl j (List.mem_cons_of_mem _ hj)) m hm
theorem hitAll_lt (alts : List Nat) : ∀ (k x wo : Nat), x < 16777216 → ∀ m ∈ hitAll alts k x wo, m < 16777216
  | 0, _, _, _, m, hm => by simp [hitAll] at hm
  | k + 1, x, wo, hx, m, hm => by
    rw [hitAll] at hm
    split at hm
    · split at hm
      · rw [List.mem_singleton] at hm; rw [hm]; exact hx
      · exact hitBits_lt (fun i wo hi m hm => hitAll_lt alts k _ wo (or_lt hx hi) m hm) _ _ (fun i hi => (bitsN_mem.1 hi).1) m hm
    · cases hm
theorem hits_lt {al : List (List Nd)} (h : ∀ l ∈ al.map maskN, l < 16777216) : ∀ m ∈ hitsOf al, m < 16777216 := hitAll_lt _ 25 0 0 (by decide)
structure HB1 (w : World) (v : Value) (ms : List Nat) (W : World) : Prop where
  below : Below w.heap.size w W
  blk : W.heap[w.heap.size]? = some (.cells #[v, .slice none 0 0] 124 (0, 0))
  ra : Kd.R (Kd.int .i64) 3 W w.heap.size (fun k => k ≠ w.heap.size ∧ w.heap.size ≤ k) v (ofN ms)
theorem HB1.move {w W W1 : World} {v : Value} {ms : List Nat} (h : HB1 w v ms W) (hb : Below W.heap.size W W1) : HB1 w v ms W1 := ⟨below_then h.below h.below.size hb, blk_below h.blk hb, Kd.R_below h.ra hb⟩
theorem HB1.start (w : World) : HB1 w (.slice none 0 0) [] (w.alloc (.cells #[.slice none 0 0, .slice none 0 0] 124)) := ⟨below_alloc (Below.refl _ _) _, blk_new w _, Kd.R_nil _ _ _ _ _⟩
theorem HB1.put {w W W1 : World} {v v1 : Value} {ms : List Nat} (h : HB1 w v ms W) (m : Nat) (hr : Kd.R (Kd.int .i64) 3 W1 w.heap.size (fun k => k ≠ w.heap.size ∧ w.heap.size ≤ k) v1 (ofN ms ++ [(m : Int)])) (hb1 : Below w.heap.size w W1) (hg : W.grownBy W1 v.ownBlock) :
    HB1 w v1 (ms ++ [m]) (W1.setCell ⟨w.heap.size, 0, none⟩ v1) := by
  have hbk := blk_grown h.blk hg (fun e => (h.ra.1 _ e.symm).1 rfl)
  refine ⟨hb1.setCell (p := ⟨w.heap.size, 0, none⟩) (Nat.le_refl _) _, blk_set hbk 0 v1, ?_⟩
  rw [show ofN (ms ++ [m]) = ofN ms ++ [(m : Int)] by unfold ofN; simp]
  exact R_same hr (fun k hk _ => Below.heap_setCell W1 _ _ k hk.1)
theorem HB1.hs {w W : World} {A : Option Addr} {c : Nat} {ms : List Nat} (h : HB1 w (.slice A ms.length c) ms W) : HS w W.heap.size w.heap.size A c ms (.slice none 0 0) [] W :=
  ⟨h.below, Nat.le_refl _, blk_lt h.blk, Nat.le_refl _, h.blk, Kd.R_mono (Kd.R_bound h.ra) (fun k hk => ⟨hk.2.2.1, hk.1.1⟩), Kd.R_nil _ _ _ _ _⟩
def DualE (al : List (List Nd)) (w : World) (E : Ending) (w' : World) : Prop :=
  ∃ v, E = .returned (.tuple #[v, .bool (dualOk al)]) ∧ kA1.R 69 w' w.heap.size (fun k => w.heap.size ≤ k) v (dualD al) ∧ Below w.heap.size w w'
set_option maxHeartbeats 16000000 in
set_option maxRecDepth 100000 in
theorem dual_calls (al : List (List Nd)) (A : Option Addr) (c : Nat) (w : World) (hr : Kd.C kA1 w A al.length al) (hl : al.length ≤ 12) (hx : ∀ l ∈ al, l.length ≤ 24 ∧ ∀ x ∈ l, InN x) (ht : TabD w) :
    Calls Tryz.prog 50 #[.slice A al.length c] w (DualE al w) := by
  have HR := Aside0.mk hr
  have HL := Aside0.mk hl
  have HX := Aside0.mk hx
  have HT := Aside0.mk ht
  have HS0 := Aside0.mk (HB1.start w)
  clear hr hl hx ht
  go_enter Tryz.func50, Tryz.ntmps50
  go_upto_region 2 with (fail)
  generalize w.alloc (.cells #[.slice none 0 0, .slice none 0 0] 124) = W1 at *
  go_wp2
  go_loopg [21] al.length (fun gg v21 wi => ∃ (i : Nat) (va : Value), i ≤ al.length ∧ al.length - i ≤ gg ∧ v21 = .int .i64 i ∧ Aside0 (HB1 w va ((al.take i).map maskN) wi))
  case atStart => exact ⟨0, _, Nat.zero_le _, Nat.le_refl _, rfl, HS0⟩
  case round =>
    clear HS0
    obtain ⟨i, va, hi, hgg, rfl, HS1⟩ := hrel
    by_cases hlt : i < al.length
    · have hltz : (i : Int) < (al.length : Int) := by omega
      have HLT := Aside0.mk hlt
      obtain ⟨ad, A0, c0, e, hk, hc0, hrow⟩ := at_sl HR.out i hlt
      subst e
      have hk2 := pw_cell_below (HS1.out).below hk
      have HROW := Aside0.mk hrow
      have HXL := Aside0.mk (HX.out _ (getD_memY [] hlt))
      have HKZ := Aside0.mk (show wrap64 ((i : Int) + 1) = ((i + 1 : Nat) : Int) by rw [wr_id (by omega) (by have := HL.out; omega)]; rfl)
      have HTK := Aside0.mk (show (al.take (i + 1)).map maskN = (al.take i).map maskN ++ [maskN (al.getD i [])] by
        rw [List.take_add_one, List.map_append, List.getD_eq_getElem?_getD, List.getElem?_eq_getElem hlt]; rfl)
      clear hk hc0 hrow hlt hi
      generalize al.getD i [] = l at *
      go_wp2
      clear hk2 hltz
      go_loopg [27, 7] l.length (fun gg v27 v7 wi => ∃ (j m : Nat), j ≤ l.length ∧ l.length - j ≤ gg ∧ v27 = .int .i64 j ∧ v7 = .int .i64 (m : Int) ∧ m < 16777216 ∧ Aside0 (maskF m (l.drop j) = maskN l) ∧ Aside0 (HB1 w va ((al.take i).map maskN) wi))
      case atStart => exact ⟨0, 0, Nat.zero_le _, Nat.le_refl _, rfl, rfl, by decide, ⟨rfl⟩, HS1⟩
      case round =>
        clear HS1
        obtain ⟨j, m, hj, hgg, rfl, rfl, hm, HM, HS2⟩ := hrel
        by_cases hlt : j < l.length
        · have hltz : (j : Int) < (l.length : Int) := by omega
          have HLJ := Aside0.mk hlt
          obtain ⟨ad2, e, hk, hkb⟩ := at_need HROW.out j hlt
          subst e
          have hk2 := pw_cell_below (HS2.out).below hk
          have hk3 := pw_cell_below (HS2.out).below hkb
          have HIN := Aside0.mk ((HXL.out).2 _ (getD_memY zN hlt))
          have HDJ := Aside0.mk (show l.drop j = l.getD j zN :: l.drop (j + 1) by
            rw [List.drop_eq_getElem_cons hlt, List.getD_eq_getElem?_getD, List.getElem?_eq_getElem hlt]; rfl)
          have HKJ := Aside0.mk (show wrap64 ((j : Int) + 1) = ((j + 1 : Nat) : Int) by rw [wr_id (by omega) (by have := (HXL.out).1; omega)]; rfl)
          clear hk hkb hlt hj
          generalize l.getD j zN = x at *
          have HSA := Aside0.mk ((HS2.out).move (below_alloc (Below.refl _ _) (.cells #[.int .i64 x.f0, .int .i64 x.f1] 83)))
          have k8 : (wr.alloc (.cells #[.int .i64 x.f0, .int .i64 x.f1] 83)).cell? ⟨wr.heap.size, 0, none⟩ = some (.int .i64 x.f0) := (blk_cell (blk_new wr _) 0).trans rfl
          have k9 : (wr.alloc (.cells #[.int .i64 x.f0, .int .i64 x.f1] 83)).cell? ⟨wr.heap.size, 1, none⟩ = some (.int .i64 x.f1) := (blk_cell (blk_new wr _) 1).trans rfl
          go_upto_region 9 with (fail)
          clear hk2 hk3 HS2
          generalize wr.alloc (.cells #[.int .i64 x.f0, .int .i64 x.f1] 83) = W8 at *
          have hin := HIN.out
          obtain ⟨i1, i2, i3, i4⟩ := hin
          have HOS := Aside0.mk (or_spot hm HIN.out)
          have HML := Aside0.mk (or_lt hm (spot_lt HIN.out).1)
          go_wp2
          go_roundg (l.length - (j + 1))
          case measure => have := HLJ.out; omega
          case rel => exact ⟨j + 1, m ||| 2 ^ spotN x, HLJ.out, Nat.le_refl _, by rw [HKJ.out], by rw [HOS.out], HML.out, ⟨by rw [← HM.out, HDJ.out]; rfl⟩, HSA⟩
        · obtain rfl : j = l.length := by omega
          have HMM := Aside0.mk (show m = maskN l by rw [← HM.out, List.drop_length]; rfl)
          have k0 : wr.cell? ⟨w.heap.size, 0, none⟩ = some va := (blk_cell (HS2.out).blk 0).trans rfl
          have HLM := Aside0.mk (show (ofN ((al.take i).map maskN)).length ≤ 12 by rw [ofN_len, List.length_map, List.length_take]; have := HL.out; omega)
          have HLI := Aside0.mk (show (ofN ((al.take i).map maskN) ++ [(m : Int)]).length = i + 1 by rw [List.length_append, ofN_len, List.length_map, List.length_take, List.length_singleton]; have := HLT.out; omega)
          clear HM hj hgg hlt
          go_wp2_with ((with_reducible refine gate_builtin (b := .append) (xs := #[.tmp 45, .tmp 47]) rfl ?_); at_builtin; refine Kd.R_append (Kd.int .i64) (w0 := w) w.heap.size rfl (.tmp 45) (.tmp 47) 22 3 (.int .i64 0) 8 rfl Tryz.underlying22 Q.info3 rfl (by decide) (by omega) va (ofN ((al.take i).map maskN)) (m : Int) [.int .i64 (m : Int)] (fun k => k ≠ w.heap.size ∧ w.heap.size ≤ k) (fun _ => False) rfl rfl rfl (fun _ hk => hk.elim) (fun k hk => by have h1 := blk_lt (HS2.out).blk; have h2 : wr.heap.size ≤ k := hk; exact ⟨by omega, by omega⟩) (HS2.out).ra (HS2.out).below (HS2.out).below.size (by have := HLM.out; omega) ?_; intro v5 w5 ho5 hb5 hg5 hat5; have HS5 := Aside0.mk ((HS2.out).put m ho5 hb5 hg5); have HBK := Aside0.mk (blk_grown (HS2.out).blk hg5 (fun e => ((HS2.out).ra.1 _ e.symm).1 rfl)); have k5 : w5.cell? ⟨w.heap.size, 0, none⟩ = some va := (blk_cell HBK.out 0).trans rfl; have f5 := blk_frozen HBK.out 0; (obtain ⟨A5, c5, e5⟩ := Kd.R_slice ho5); rw [HLI.out] at e5; subst e5; clear ho5 hb5 hg5 hat5)
          go_roundg (al.length - (i + 1))
          case measure => have := HLT.out; omega
          case rel => exact ⟨i + 1, _, HLT.out, Nat.le_refl _, by rw [HKZ.out], ⟨by rw [HTK.out, ← HMM.out]; exact HS5.out⟩⟩
    · obtain rfl : i = al.length := by omega
      rw [List.take_length] at HS1
      have hra := (HS1.out).ra
      obtain ⟨A5, c5, e5⟩ := Kd.R_slice hra
      rw [ofN_len] at e5
      subst e5
      have HAM := Aside0.mk (show ∀ l ∈ al.map maskN, l < 16777216 from fun m hm => by
        obtain ⟨l, hl, rfl⟩ := List.mem_map.1 hm
        exact maskN_lt (HX.out l hl).2)
      have HHT := Aside0.mk (show Calls Tryz.prog 96 #[.pointer (some ⟨w.heap.size, 0, none⟩), .int .i64 0, .int .i64 0] wr (HitE w wr.heap.size w.heap.size A5 c5 (al.map maskN) (.slice none 0 0) (hitsOf al) wr) from
        hit_calls w wr.heap.size w.heap.size A5 c5 (al.map maskN) HAM.out 25 0 0 (.slice none 0 0) [] wr (by decide) (by decide) (by omega) (by decide) (HS1.out).hs)
      clear hra hi hgg hlt HS1 HR
      go_wp2_with fail
      refine (HHT.out).mono ?_
      rintro E W5 ⟨v5, rfl, HS5, HF5⟩
      have HSH := Aside0.mk HS5
      have HB5 := Aside0.mk HS5.below
      obtain ⟨A6, c6, e6⟩ := Kd.R_slice HS5.ro
      rw [ofN_len] at e6
      subst e6
      have hrd := Kd.R_reads' HS5.ro
      rw [ofN_len] at hrd
      have HRD := Aside0.mk hrd.2.2
      have k1 : W5.cell? ⟨w.heap.size, 1, none⟩ = some (.slice A6 ((hitsOf al).take 13).length c6) := (blk_cell HS5.blk 1).trans rfl
      have HT5 := Aside0.mk ((HT.out).below HS5.below)
      have HOKD := Aside0.mk (show dualOk al = decide ((hitsOf al).length ≤ 12) from rfl)
      rw [← HOKD.out]
      have HDD := Aside0.mk (show dualD al = sortL (((hitsOf al).take 13).map unN) from rfl)
      have HOL := Aside0.mk (show ((hitsOf al).take 13).length ≤ 13 from List.length_take_le _ _)
      have HOM := Aside0.mk (show ∀ m ∈ (hitsOf al).take 13, m < 16777216 from fun m hm => hits_lt HAM.out m (List.mem_of_mem_take hm))
      generalize (hitsOf al).take 13 = outs at *
      clear HS5 HF5 hrd HHT HSH HAM
      have HBW := Aside0.mk (Below.refl W5.heap.size W5)
      go_wp2
      clear k1
      go_loopg [59, 11] outs.length (fun gg v59 v11 wi => ∃ i : Nat, i ≤ outs.length ∧ outs.length - i ≤ gg ∧ v59 = .int .i64 i ∧ Aside0 (Below W5.heap.size W5 wi) ∧ Aside0 (kA1.R 69 wi W5.heap.size (fun k => W5.heap.size ≤ k) v11 ((outs.take i).map unN)))
      case atStart => exact ⟨0, Nat.zero_le _, Nat.le_refl _, rfl, HBW, ⟨Kd.R_nil _ _ _ _ _⟩⟩
      case round =>
        clear HBW
        obtain ⟨i, hi, hgg, rfl, HBW, HRO⟩ := hrel
        generalize wr = WR at *
        by_cases hlt : i < outs.length
        · have hltz : (i : Int) < (outs.length : Int) := by omega
          have HLT := Aside0.mk hlt
          obtain ⟨ad, e, hk⟩ := Kd.at_int HRD.out (i : Int) (by omega) (by omega)
          subst e
          rw [show rd (ofN outs) (i : Int) = ((outs.getD i 0 : Nat) : Int) by simp [rd, ofN, List.getD_eq_getElem?_getD, List.getElem?_eq_getElem hlt], Int.toNat_natCast] at hk
          have hk2 := pw_cell_below (HBW.out) hk
          have HMM := Aside0.mk (HOM.out _ (getD_memY 0 hlt))
          have HTK := Aside0.mk (show (outs.take (i + 1)).map unN = (outs.take i).map unN ++ [unN (outs.getD i 0)] by
            rw [List.take_add_one, List.map_append, List.getD_eq_getElem?_getD, List.getElem?_eq_getElem hlt]; rfl)
          have HKZ := Aside0.mk (show wrap64 ((i : Int) + 1) = ((i + 1 : Nat) : Int) by rw [wr_id (by omega) (by have := HOL.out; omega)]; rfl)
          clear hk hlt hi
          generalize outs.getD i 0 = m at *
          have HLW := Aside0.mk (listW_calls m HMM.out WR ((HT5.out).below HBW.out))
          go_wp2_with fail
          refine (HLW.out).mono ?_
          rintro E W6 ⟨A7, c7, rfl, hc7, hC7, hb7⟩
          have HC7 := Aside0.mk hC7
          have HB7 := Aside0.mk hb7
          have HBL := Aside0.mk (bitsI_len m)
          have HEQ := Aside0.mk (show bitsI m = ofN (bitsN m) from rfl)
          clear hk2 hltz hc7 hC7 hb7 HLW
          have HEL := Aside0.mk (show (bitsI m).length = (bitsN m).length from by rw [HEQ.out, ofN_len])
          go_wp2
          go_loopg [66, 14] (bitsI m).length (fun gg v66 v14 wi => ∃ j : Nat, j ≤ (bitsI m).length ∧ (bitsI m).length - j ≤ gg ∧ v66 = .int .i64 j ∧ Aside0 (Below WR.heap.size WR wi) ∧ Aside0 (Below W6.heap.size W6 wi) ∧ Aside0 (Kd.R Q.k83 83 wi WR.heap.size (fun k => W6.heap.size ≤ k) v14 (((bitsN m).take j).map needI)))
          case atStart => exact ⟨0, Nat.zero_le _, Nat.le_refl _, rfl, HB7, ⟨Below.refl _ _⟩, ⟨Kd.R_nil _ _ _ _ _⟩⟩
          case round =>
            obtain ⟨j, hj, hgg, rfl, HBR, HB6, HRL⟩ := hrel
            by_cases hlt : j < (bitsI m).length
            · have hltz : (j : Int) < ((bitsI m).length : Int) := by omega
              have HLJ := Aside0.mk hlt
              obtain ⟨ad2, e, hk⟩ := Kd.at_int HC7.out (j : Int) (by omega) (by omega)
              subst e
              have hlt2 : j < (bitsN m).length := by have := HEL.out; omega
              rw [show rd (bitsI m) (j : Int) = (((bitsN m).getD j 0 : Nat) : Int) by rw [HEQ.out]; simp [rd, ofN, List.getD_eq_getElem?_getD, List.getElem?_eq_getElem hlt2], Int.toNat_natCast] at hk
              have hk2 := pw_cell_below (HB6.out) hk
              have HBI := Aside0.mk (bits_lt hlt2)
              have HTJ := Aside0.mk (show ((bitsN m).take (j + 1)).map needI = ((bitsN m).take j).map needI ++ [needI ((bitsN m).getD j 0)] by
                rw [List.take_add_one, List.map_append, List.getD_eq_getElem?_getD, List.getElem?_eq_getElem hlt2]; rfl)
              have HLL := Aside0.mk (show (((bitsN m).take j).map needI).length ≤ 24 by rw [List.length_map, List.length_take]; have := bitsN_len m; omega)
              have HKJ := Aside0.mk (show wrap64 ((j : Int) + 1) = ((j + 1 : Nat) : Int) by rw [wr_id (by omega) (by have := HBL.out; omega)]; rfl)
              have HSZ := Aside0.mk (show WR.heap.size ≤ W6.heap.size from (HB7.out).size)
              clear hk hlt hlt2 hj
              generalize (bitsN m).getD j 0 = i2 at *
              have hi2 := HBI.out
              have HLN := Aside0.mk (show (((bitsN m).take j).map needI).length = j by rw [List.length_map, List.length_take]; have := HLJ.out; have := HEL.out; omega)
              obtain ⟨A8, c8, e8⟩ := Kd.R_slice HRL.out
              rw [HLN.out] at e8
              subst e8
              have HNI := Aside0.mk (show (⟨(i2 : Int) / 6, (i2 : Int) % 6⟩ : Nd) = needI i2 from rfl)
              have HLN2 := Aside0.mk (show (((bitsN m).take (j + 1)).map needI).length = j + 1 by rw [HTJ.out, List.length_append, HLN.out]; rfl)
              go_wp2_with ((with_reducible refine gate_builtin (b := .append) (xs := #[.tmp 70, .tmp 76]) rfl ?_); at_builtin; refine Kd.R_append Q.k83 (w0 := WR) WR.heap.size rfl (.tmp 70) (.tmp 76) 69 83 (.agg #[.int .i64 0, .int .i64 0]) 16 rfl Tryz.underlying69 Q.info83 rfl (by decide) (by decide) (.slice A8 j c8) (((bitsN m).take j).map needI) ⟨(i2 : Int) / 6, (i2 : Int) % 6⟩ [.int .i64 ((i2 : Int) / 6), .int .i64 ((i2 : Int) % 6)] (fun k => W6.heap.size ≤ k) (fun _ => False) rfl rfl (Q.k83_mkM _ _ _ ⟨(i2 : Int) / 6, (i2 : Int) % 6⟩) (fun _ hk => hk.elim) (fun k hk => Nat.le_trans (HB6.out).size hk) HRL.out HBR.out (HBR.out).size (by have := HLL.out; omega) ?_; intro v7 w7 ho7 hb7 hg7 hat7; have HB8 := Aside0.mk (pw_below_grown HB6.out _ (HB6.out).size hg7 (fun k hk => (HRL.out).1 k hk)); rw [HNI.out, ← HTJ.out] at ho7; have HR7 := Aside0.mk ho7; have HBR7 := Aside0.mk hb7; (obtain ⟨A9, c9, e9⟩ := Kd.R_slice ho7); rw [HLN2.out] at e9; subst e9; clear ho7 hb7 hg7 hat7)
              go_roundg ((bitsI m).length - (j + 1))
              case measure => have := HLJ.out; omega
              case rel => exact ⟨j + 1, HLJ.out, Nat.le_refl _, by rw [HKJ.out], HBR7, HB8, HR7⟩
            · obtain rfl : j = (bitsI m).length := by omega
              have HUN := Aside0.mk (show ((bitsN m).take (bitsI m).length).map needI = unN m by rw [HEL.out, List.take_length]; rfl)
              rw [HUN.out] at HRL
              obtain ⟨A8, c8, e8⟩ := Kd.R_slice HRL.out
              subst e8
              have HRO2 := Aside0.mk (Kd.R_below HRO.out HBR.out)
              have HBW2 := Aside0.mk (below_then HBW.out (HBW.out).size HBR.out)
              have HRL2 := Aside0.mk (Kd.R_lower HRL.out (HBW.out).size)
              have HOWN := Aside0.mk (show ∀ k, u11.ownBlock = some k → k < W6.heap.size from fun k hk => Nat.lt_of_lt_of_le (ownBlock_typed HRO.out hk).2 (HB7.out).size)
              have HLO := Aside0.mk (show ((outs.take i).map unN).length ≤ 13 by rw [List.length_map, List.length_take]; have := HOL.out; omega)
              clear HBR HRL HRO hj hgg hlt
              go_wp2_with ((with_reducible refine gate_builtin (b := .append) (xs := #[.tmp 79, .tmp 81]) rfl ?_); at_builtin; refine Kd.R_append kA1 (w0 := W5) W5.heap.size rfl (.tmp 79) (.tmp 81) 66 69 (.slice none 0 0) 24 rfl Tryz.underlying66 Q.info69 rfl (show 0 < 1 by decide) (by decide) u11 ((outs.take i).map unN) (unN m) [.slice A8 (unN m).length c8] (fun k => W5.heap.size ≤ k) (fun k => W6.heap.size ≤ k) rfl rfl ⟨_, rfl, HRL2.out⟩ (fun k hk => ⟨by have h1 := (HBW.out).size; have h2 := (HB7.out).size; have h3 : W6.heap.size ≤ k := hk; show W5.heap.size ≤ k; omega, fun e => by have h1 := HOWN.out k e.symm; have h3 : W6.heap.size ≤ k := hk; omega⟩) (fun k hk => by have h1 := (HBW2.out).size; have h3 : wr.heap.size ≤ k := hk; show W5.heap.size ≤ k; omega) HRO2.out HBW2.out (HBW2.out).size (by have := HLO.out; omega) ?_; intro v7 w7 ho7 hb7 hg7 hat7; rw [← HTK.out] at ho7; have HR7 := Aside0.mk ho7; have HBW7 := Aside0.mk hb7; clear ho7 hb7 hg7 hat7)
              go_roundg (outs.length - (i + 1))
              case measure => have := HLT.out; omega
              case rel => exact ⟨i + 1, HLT.out, Nat.le_refl _, by rw [HKZ.out], HBW7, HR7⟩
        · obtain rfl : i = outs.length := by omega
          rw [List.take_length] at HRO
          have HSRT := Aside0.mk (sortG_calls W5.heap.size (fun k => W5.heap.size ≤ k) u11 (outs.map unN) WR HRO.out (fun l hl => by
            obtain ⟨m, hm, rfl⟩ := List.mem_map.1 hl
            exact ⟨(unN_small m).1, fun x hx => ((unN_small m).2 x hx).small⟩) (by rw [List.length_map]; have := HOL.out; omega))
          have HOWN := Aside0.mk (show ∀ k, u11.ownBlock = some k → W5.heap.size ≤ k from (HRO.out).1)
          clear hi hgg hlt HRO
          go_wp2_with fail
          refine (HSRT.out).mono ?_
          rintro E W6 ⟨rfl, hR, hg⟩
          have HR6 := Aside0.mk (Kd.R_mono (Kd.R_lower hR (HB5.out).size) (fun k hk => Nat.le_trans (HB5.out).size hk))
          have HB6 := Aside0.mk (below_then HB5.out (HB5.out).size (pw_below_grown HBW.out _ (HBW.out).size hg (fun k hk => HOWN.out k hk)))
          clear hR hg
          go_wp2
          go_ret2
          exact ⟨u11, rfl, by rw [HDD.out]; exact HR6.out, HB6.out⟩
end Go.Proofs.YtbmcigakiibncaaGreatDoor.H
namespace Go.Proofs.YtbmcigakiibncaaGreatDoor.H
open Go.RowKit Go.Proofs.YtbmcigakiibncaaGreatDoorW.PrintWords Go.Proofs.YtbmcigakiibncaaGreatDoorW.PrintLast Go.Proofs.YtbmcigakiibncaaGreatDoorW.PrintMore
set_option linter.unusedVariables false
set_option linter.unusedSimpArgs false
structure GH (w W : World) (x y z : Value) : Prop where
  hb : Below w.heap.size w W
  ha : W.heap[w.heap.size]? = some (.cells #[x, y, z] 25 (0, 0))
  he : W.heap[w.heap.size + 1]? = some (.cells #[.int .i64 0] 29 (0, 0))
theorem GH.start (w : World) : GH w ((w.alloc (.cells #[.slice none 0 0, .int .i64 0, .slice none 0 0] 25)).alloc (.cells #[.int .i64 0] 29)) (.slice none 0 0) (.int .i64 0) (.slice none 0 0) :=
  ⟨below_alloc (below_alloc (Below.refl _ _) _) _, blk_alloc (blk_new w _) _, blk_at2 w _ _⟩
theorem GH.below {w W W1 : World} {x y z : Value} (h : GH w W x y z) (hb : Below W.heap.size W W1) : GH w W1 x y z := ⟨below_then h.hb h.hb.size hb, blk_below h.ha hb, blk_below h.he hb⟩
theorem GH.grown {w W W1 : World} {x y z : Value} (h : GH w W x y z) {row : Option Nat} (hb : Below w.heap.size w W1) (hg : W.grownBy W1 row) (hne : ∀ k, row = some k → w.heap.size + 2 ≤ k) : GH w W1 x y z :=
  ⟨hb, blk_grown h.ha hg (fun e => by have := hne _ e.symm; omega), blk_grown h.he hg (fun e => by have := hne _ e.symm; omega)⟩
theorem GH.cells {w W : World} {x y z : Value} (h : GH w W x y z) : W.cell? ⟨w.heap.size, 0, none⟩ = some x ∧ W.cell? ⟨w.heap.size, 1, none⟩ = some y ∧ W.cell? ⟨w.heap.size, 2, none⟩ = some z ∧ W.cell? ⟨w.heap.size + 1, 0, none⟩ = some (.int .i64 0) :=
  ⟨(blk_cell h.ha 0).trans rfl, (blk_cell h.ha 1).trans rfl, (blk_cell h.ha 2).trans rfl, (blk_cell h.he 0).trans rfl⟩
theorem GH.frozen {w W : World} {x y z : Value} (h : GH w W x y z) : W.frozen? ⟨w.heap.size, 0, none⟩ = false ∧ W.frozen? ⟨w.heap.size, 1, none⟩ = false ∧ W.frozen? ⟨w.heap.size, 2, none⟩ = false ∧ W.frozen? ⟨w.heap.size + 1, 0, none⟩ = false :=
  ⟨blk_frozen h.ha 0, blk_frozen h.ha 1, blk_frozen h.ha 2, blk_frozen h.he 0⟩
theorem GH.set0 {w W : World} {x y z : Value} (h : GH w W x y z) (u : Value) : GH w (W.setCell ⟨w.heap.size, 0, none⟩ u) u y z := ⟨h.hb.setCell (p := ⟨w.heap.size, 0, none⟩) (Nat.le_refl _) _, blk_set h.ha 0 u, blk_far h.he (by show w.heap.size + 1 ≠ w.heap.size; omega) _⟩
theorem GH.set1 {w W : World} {x y z : Value} (h : GH w W x y z) (u : Value) : GH w (W.setCell ⟨w.heap.size, 1, none⟩ u) x u z := ⟨h.hb.setCell (p := ⟨w.heap.size, 1, none⟩) (Nat.le_refl _) _, blk_set h.ha 1 u, blk_far h.he (by show w.heap.size + 1 ≠ w.heap.size; omega) _⟩
theorem GH.set2 {w W : World} {x y z : Value} (h : GH w W x y z) (u : Value) : GH w (W.setCell ⟨w.heap.size, 2, none⟩ u) x y u := ⟨h.hb.setCell (p := ⟨w.heap.size, 2, none⟩) (Nat.le_refl _) _, blk_set h.ha 2 u, blk_far h.he (by show w.heap.size + 1 ≠ w.heap.size; omega) _⟩
theorem run_mkfun9 (fn : Fn) (first cap : Array Value) (w : World) : (Instr.makeFunc fn first cap).run Tryz.prog w = .ok (.func fn first cap) w := rfl
theorem getE_zero {t : ByteArray} {w W : World} {e : Int} (h : getR t = (e, [], 0, [])) (hb : Below w.heap.size w W) : GetE t w (.returned (.tuple #[.agg #[.slice none 0 0, .int .i64 0, .slice none 0 0], .int .i64 e])) W := by
  unfold GetE
  rw [h]
  exact ⟨none, 0, none, 0, rfl, ⟨rfl, by simp, fun h => absurd h (by simp)⟩, Nat.le_refl _, ⟨rfl, by simp, fun h => absurd h (by simp)⟩, Nat.le_refl _, hb⟩
theorem get_panic {t : ByteArray} {w W : World} {x y z : Value} (h : getR t = (4, [], 0, [])) (hG : GH w W x y z) (tm : Array Value) (h2 : tm[2]? = some (.pointer (some ⟨w.heap.size, 0, none⟩))) (h3 : tm[3]? = some (.pointer (some ⟨w.heap.size + 1, 0, none⟩))) :
    bodyPostD Tryz.prog Tryz.f26 (GetE t w) (Exit.panic [{ v := .iface 89 (.agg #[]), recovered := false }]) { tmps := tm, defers := [{ target := .fn (.func 58) #[.pointer (some ⟨w.heap.size, 0, none⟩), .pointer (some ⟨w.heap.size + 1, 0, none⟩)], args := #[] }] } W := by
  refine leaves_cons (f := 58) (args := #[.pointer (some ⟨w.heap.size, 0, none⟩), .pointer (some ⟨w.heap.size + 1, 0, none⟩)]) (by simp) (by simp [go_sem]) ?_
  refine (catch_bad w.heap.size x y z _ W hG.ha hG.he).mono ?_
  rintro e u' w'' ⟨rfl, rfl, h0, h1, hb⟩
  have k0 : w''.cell? ⟨w.heap.size, 0, none⟩ = some (.slice none 0 0) := (blk_cell h0 0).trans rfl
  have k1 : w''.cell? ⟨w.heap.size, 1, none⟩ = some (.int .i64 0) := (blk_cell h0 1).trans rfl
  have k2 : w''.cell? ⟨w.heap.size, 2, none⟩ = some (.slice none 0 0) := (blk_cell h0 2).trans rfl
  have k3 : w''.cell? ⟨w.heap.size + 1, 0, none⟩ = some (.int .i64 4) := (blk_cell h1 0).trans rfl
  have hE := getE_zero (w := w) (W := w'') h (Below.trans hG.hb hb)
  simp [Leaves, settle, results, Tryz.results26, go_sem, h2, h3, k0, k1, k2, k3]
  exact hE
theorem get_done {t : ByteArray} {w W : World} {A1 A2 : Option Addr} {c1 c2 : Nat} {rk : List Int} {st : Int} {M : Mv} {e : Int} (h : getR t = (e, rk, st, M)) (hG : Below w.heap.size w W)
    (h0 : W.heap[w.heap.size]? = some (.cells #[.slice A1 rk.length c1, .int .i64 st, .slice A2 M.length c2] 25 (0, 0))) (h1 : W.heap[w.heap.size + 1]? = some (.cells #[.int .i64 e] 29 (0, 0)))
    (hr : Kd.C (Kd.int .i64) W A1 rk.length rk) (hrc : rk.length ≤ c1) (hM : Kd.C kA3 W A2 M.length M) (hMc : M.length ≤ c2)
    (tm : Array Value) (h2 : tm[2]? = some (.pointer (some ⟨w.heap.size, 0, none⟩))) (h3 : tm[3]? = some (.pointer (some ⟨w.heap.size + 1, 0, none⟩))) :
    bodyPostD Tryz.prog Tryz.f26 (GetE t w) Exit.ret { tmps := tm, defers := [{ target := .fn (.func 58) #[.pointer (some ⟨w.heap.size, 0, none⟩), .pointer (some ⟨w.heap.size + 1, 0, none⟩)], args := #[] }] } W := by
  refine leaves_cons (f := 58) (args := #[.pointer (some ⟨w.heap.size, 0, none⟩), .pointer (some ⟨w.heap.size + 1, 0, none⟩)]) (by simp) (by simp [go_sem]) ?_
  refine (catch_idle _ _ W).mono ?_
  rintro e' u' w'' ⟨rfl, rfl, rfl⟩
  have k0 : w''.cell? ⟨w.heap.size, 0, none⟩ = some (.slice A1 rk.length c1) := (blk_cell h0 0).trans rfl
  have k1 : w''.cell? ⟨w.heap.size, 1, none⟩ = some (.int .i64 st) := (blk_cell h0 1).trans rfl
  have k2 : w''.cell? ⟨w.heap.size, 2, none⟩ = some (.slice A2 M.length c2) := (blk_cell h0 2).trans rfl
  have k3 : w''.cell? ⟨w.heap.size + 1, 0, none⟩ = some (.int .i64 e) := (blk_cell h1 0).trans rfl
  have hE : GetE t w (.returned (.tuple #[.agg #[.slice A1 rk.length c1, .int .i64 st, .slice A2 M.length c2], .int .i64 e])) w'' := by
    unfold GetE
    rw [h]
    exact ⟨A1, _, A2, _, rfl, hr, hrc, hM, hMc, hG⟩
  simp [Leaves, settle, results, Tryz.results26, go_sem, h2, h3, k0, k1, k2, k3]
  exact hE
theorem get_ret0 {t : ByteArray} {w W : World} {e : Int} (h : getR t = (e, [], 0, [])) (hG : Below w.heap.size w W)
    (h0 : W.heap[w.heap.size]? = some (.cells #[.slice none 0 0, .int .i64 0, .slice none 0 0] 25 (0, 0))) (h1 : W.heap[w.heap.size + 1]? = some (.cells #[.int .i64 e] 29 (0, 0)))
    (tm : Array Value) (h2 : tm[2]? = some (.pointer (some ⟨w.heap.size, 0, none⟩))) (h3 : tm[3]? = some (.pointer (some ⟨w.heap.size + 1, 0, none⟩))) :
    bodyPostD Tryz.prog Tryz.f26 (GetE t w) Exit.ret { tmps := tm, defers := [] } W := by
  have k0 : W.cell? ⟨w.heap.size, 0, none⟩ = some (.slice none 0 0) := (blk_cell h0 0).trans rfl
  have k1 : W.cell? ⟨w.heap.size, 1, none⟩ = some (.int .i64 0) := (blk_cell h0 1).trans rfl
  have k2 : W.cell? ⟨w.heap.size, 2, none⟩ = some (.slice none 0 0) := (blk_cell h0 2).trans rfl
  have k3 : W.cell? ⟨w.heap.size + 1, 0, none⟩ = some (.int .i64 e) := (blk_cell h1 0).trans rfl
  have hE := getE_zero h hG
  simp [bodyPostD, Leaves, settle, results, Tryz.results26, go_sem, h2, h3, k0, k1, k2, k3]
  exact hE
end Go.Proofs.YtbmcigakiibncaaGreatDoor.H
namespace Go.Proofs.YtbmcigakiibncaaGreatDoor.H
open Go.RowKit Go.Proofs.YtbmcigakiibncaaGreatDoorW.PrintWords Go.Proofs.YtbmcigakiibncaaGreatDoorW.PrintLast Go.Proofs.YtbmcigakiibncaaGreatDoorW.PrintMore
set_option linter.unusedVariables false
set_option linter.unusedSimpArgs false
theorem strs_cell {W : World} {b : Nat} {L : List ByteArray} {x : Nat × Nat} (h : W.heap[b]? = some (.cells (L.map Value.string).toArray 9 x)) {i : Nat} (hi : i < L.length) : W.cell? ⟨b, i, none⟩ = some (.string (L.getD i ByteArray.empty)) := by
  rw [Lib.cell_of_heap h]
  simp [List.getD_eq_getElem?_getD, hi]
theorem getR_bad {t : ByteArray} (hs : t.size ≤ 65536) (h : getV t = none) : getR t = (4, [], 0, []) := by unfold getR; rw [if_neg (by omega), h]
theorem splitB_size (sep : ByteArray) : ∀ (k : Nat) (s : ByteArray), ∀ x ∈ Lib.splitB sep 0 k s, x.size ≤ s.size
  | 0, s, x, hx => by rw [Lib.splitB_zero, List.mem_singleton] at hx; rw [hx]; exact Nat.le_refl _
  | k + 1, s, x, hx => by
    unfold Lib.splitB at hx
    split at hx
    · rw [List.mem_singleton] at hx; rw [hx]; exact Nat.le_refl _
    · rcases List.mem_cons.1 hx with rfl | hx
      · rw [ByteArray.size_extract]; omega
      · have := splitB_size sep k _ x hx
        rw [ByteArray.size_extract] at this; omega
theorem chunk_size (s : ByteArray) (c : UInt8) (i : Nat) : ((chunks s c).getD i ByteArray.empty).size ≤ s.size := by
  by_cases hi : i < (chunks s c).length
  · rw [List.getD_eq_getElem?_getD, List.getElem?_eq_getElem hi]
    exact splitB_size _ _ _ _ (List.getElem_mem hi)
  · rw [List.getD_eq_getElem?_getD, List.getElem?_eq_none (by omega)]
    exact Nat.zero_le _
theorem getV_short {t : ByteArray} (h : (chunks t 10).length < 3) : getV t = none := by unfold getV; rw [if_neg (fun x => by omega)]
theorem getV_end {t : ByteArray} (h : (chunks t 10).getD ((chunks t 10).length - 1) ByteArray.empty ≠ ByteArray.empty) : getV t = none := by unfold getV; rw [if_neg (fun x => h x.2)]
theorem getV_first {t : ByteArray} (h : (chunks ((chunks t 10).getD 0 ByteArray.empty) 32).head? ≠ some sRanks) : getV t = none := by
  unfold getV
  by_cases hc : 3 ≤ (chunks t 10).length ∧ (chunks t 10).getD ((chunks t 10).length - 1) ByteArray.empty = ByteArray.empty
  · rw [if_pos hc, if_neg (fun x => h x.1)]
  · rw [if_neg hc]
theorem getD_memB {l : List ByteArray} {i : Nat} (hi : i < l.length) : l.getD i ByteArray.empty ∈ l := by
  rw [List.getD_eq_getElem?_getD, List.getElem?_eq_getElem hi]
  exact List.getElem_mem hi
theorem getV_rank {t : ByteArray} {i : Nat} (hi : i < ((chunks ((chunks t 10).getD 0 ByteArray.empty) 32).drop 1).length) (h : okW (((chunks ((chunks t 10).getD 0 ByteArray.empty) 32).drop 1).getD i ByteArray.empty) = false) : getV t = none := by
  unfold getV
  by_cases hc : 3 ≤ (chunks t 10).length ∧ (chunks t 10).getD ((chunks t 10).length - 1) ByteArray.empty = ByteArray.empty
  · rw [if_pos hc, if_neg (fun x => ?_)]
    have h1 := List.all_eq_true.1 x.2.1 (((chunks ((chunks t 10).getD 0 ByteArray.empty) 32).drop 1).getD i ByteArray.empty) (getD_memB hi)
    rw [h] at h1
    cases h1
  · rw [if_neg hc]
theorem getV_second {t : ByteArray} (h : (chunks ((chunks t 10).getD 1 ByteArray.empty) 32).head? ≠ some sStates) : getV t = none := by
  unfold getV
  by_cases hc : 3 ≤ (chunks t 10).length ∧ (chunks t 10).getD ((chunks t 10).length - 1) ByteArray.empty = ByteArray.empty
  · rw [if_pos hc, if_neg (fun x => h x.2.2.1)]
  · rw [if_neg hc]
theorem getV_sec {t : ByteArray} (h : secOk ((chunks ((chunks t 10).getD 1 ByteArray.empty) 32).drop 1) = false) : getV t = none := by
  unfold getV
  by_cases hc : 3 ≤ (chunks t 10).length ∧ (chunks t 10).getD ((chunks t 10).length - 1) ByteArray.empty = ByteArray.empty
  · rw [if_pos hc, if_neg (fun x => by rw [h] at x; exact absurd x.2.2.2 (by decide))]
  · rw [if_neg hc]
theorem num_nonneg {s : ByteArray} (h : okW s = true) : 0 ≤ valW s ∧ valW s ≤ 1000000000 := by
  unfold okW numOk at h
  simp only [Bool.and_eq_true, Bool.not_eq_true', decide_eq_true_eq] at h
  obtain ⟨n, hn⟩ := atoi_some h.1
  unfold valW
  rw [(num_good h.1).1]
  have := numV_eq hn
  omega
theorem getV_main {t s0 s1 x1 x2 x3 p : ByteArray} {L ws wd : List ByteArray} (hL : chunks t 10 = L) (h3 : 3 ≤ L.length) (hle : L.getD (L.length - 1) ByteArray.empty = ByteArray.empty) (hs0 : L.getD 0 ByteArray.empty = s0) (hws : chunks s0 32 = ws) (hhd : ws.head? = some sRanks) (hwd : ws.drop 1 = wd) (hall : wd.all okW = true)
    (hs1 : L.getD 1 ByteArray.empty = s1) (hws2 : chunks s1 32 = [p, x1, x2, x3]) (hh2 : [p, x1, x2, x3].head? = some sStates) (hx2 : x2 = sStart) (ok1 : okW x1 = true) (ok3 : okW x3 = true) :
    getV t = (gstep (valW x1) wd.length ((L.drop 2).take (L.length - 3)) (-1) (List.replicate (min (valW x1) 7).toNat (List.replicate wd.length []))).map fun M => (wd.map valW, valW x3, M) := by
  unfold getV
  subst hs0 hs1 hwd
  rw [hL, if_pos ⟨h3, hle⟩, hws, hws2, if_pos ⟨hhd, hall, hh2, by show (decide (x2 = sStart) && okW x1 && okW x3) = true; rw [decide_eq_true hx2, ok1, ok3]; rfl⟩]
  simp
theorem made_rep (z : Value) (n : Nat) : madeCells #[z] n = Array.replicate n z := by
  unfold madeCells
  apply Array.ext
  · simp
  · intro i h1 h2
    simp [Nat.mod_one]
theorem R_grown9 {α β : Type} {d : Kd α} {d2 : Kd β} {e e2 b0 b2 : Nat} {w w1 : World} {ok ok2 : Nat → Prop} {v v2 : Value} {xs : List α} {ys : List β} (h : d.R e w b0 ok v xs) (h2 : d2.R e2 w b2 ok2 v2 ys) (he : e ≠ e2) (hE : ∀ q ∈ d.E, q ≠ e2) (hg : w.grownBy w1 v2.ownBlock) : d.R e w1 b0 ok v xs := by
  cases hob : v2.ownBlock with
  | none => exact R_same h (fun k hk hlt => hg.block k hlt (by rw [hob]; exact fun x => by cases x))
  | some b =>
    obtain ⟨⟨cb, hcb⟩, _⟩ := ownBlock_typed h2 hob
    refine R_other h b (fun x => ?_) (fun q hq cells hc => types_ne hc hcb (hE q hq) rfl) (fun k hk hlt => hg.block k hlt (by rw [hob]; exact fun x => hk (Option.some.inj x)))
    obtain ⟨⟨c2, h3⟩, _⟩ := ownBlock_typed h x
    exact types_ne h3 hcb he rfl
structure GL (w W : World) (x y z : Value) (bl : Nat) (L : List ByteArray) : Prop where
  g : GH w W x y z
  l : W.heap[bl]? = some (.cells (L.map Value.string).toArray 9 (0, 0))
  hbl : w.heap.size + 2 ≤ bl
theorem GL.below {w W W1 : World} {x y z : Value} {bl : Nat} {L : List ByteArray} (h : GL w W x y z bl L) (hb : Below W.heap.size W W1) : GL w W1 x y z bl L := ⟨h.g.below hb, blk_below h.l hb, h.hbl⟩
theorem GL.app {w W W1 : World} {x y z : Value} {bl : Nat} {L : List ByteArray} (h : GL w W x y z bl L) {α : Type} {d : Kd α} {e b0 : Nat} {v : Value} {xs : List α} (hR : d.R e W b0 (fun k => w.heap.size + 2 ≤ k) v xs) (he : e ≠ 9) (hb : Below w.heap.size w W1) (hg : W.grownBy W1 v.ownBlock) : GL w W1 x y z bl L :=
  ⟨h.g.grown hb hg (fun k hk => hR.1 k hk), blk_grown h.l hg (fun hk => by obtain ⟨⟨c, hc⟩, _⟩ := ownBlock_typed hR hk.symm; exact types_ne hc h.l he rfl), h.hbl⟩
theorem GL.set0 {w W : World} {x y z : Value} {bl : Nat} {L : List ByteArray} (h : GL w W x y z bl L) (u : Value) : GL w (W.setCell ⟨w.heap.size, 0, none⟩ u) u y z bl L := ⟨h.g.set0 u, blk_far h.l (by have := h.hbl; show bl ≠ w.heap.size; omega) _, h.hbl⟩
theorem GL.set1 {w W : World} {x y z : Value} {bl : Nat} {L : List ByteArray} (h : GL w W x y z bl L) (u : Value) : GL w (W.setCell ⟨w.heap.size, 1, none⟩ u) x u z bl L := ⟨h.g.set1 u, blk_far h.l (by have := h.hbl; show bl ≠ w.heap.size; omega) _, h.hbl⟩
theorem GL.set2 {w W : World} {x y z : Value} {bl : Nat} {L : List ByteArray} (h : GL w W x y z bl L) (u : Value) : GL w (W.setCell ⟨w.heap.size, 2, none⟩ u) x y u bl L := ⟨h.g.set2 u, blk_far h.l (by have := h.hbl; show bl ≠ w.heap.size; omega) _, h.hbl⟩
theorem words_cell {W : World} {b : Nat} {ws : List ByteArray} {o i : Nat} (h : W.heap[b]? = some (.cells (ws.map Value.string).toArray 9 (0, 0))) (hi : i < (ws.drop 1).length) (ho : (ws.drop 1).length = 0 ∨ o = 1) : W.cell? ⟨b, o + i, none⟩ = some (.string ((ws.drop 1).getD i ByteArray.empty)) := by
  obtain rfl : o = 1 := by omega
  rw [strs_cell h (show 1 + i < ws.length by rw [List.length_drop] at hi; omega)]
  simp [List.getD_eq_getElem?_getD, List.getElem?_drop, Nat.add_comm]
theorem MM.at {b0 B : Nat} {W : World} {v : Value} {M : Mv} {m : Nat} {gs : List Nat} {u : Nat → Nat → Value} (h : MM b0 B W v M m gs u) {q f : Nat} (hq : q < M.length) (hf : f < m) :
    ∃ ab cap, v = .slice (some ⟨ab, 0, none⟩) M.length cap ∧ W.cell? ⟨ab, q, none⟩ = some (.slice (some ⟨gs.getD q 0, 0, none⟩) m m) ∧ W.cell? ⟨gs.getD q 0, f, none⟩ = some (u q f) ∧ W.frozen? ⟨gs.getD q 0, f, none⟩ = false ∧ (∃ cs, W.heap[ab]? = some (.cells cs 65 (0, 0))) ∧ (∃ cs, W.heap[gs.getD q 0]? = some (.cells cs 66 (0, 0))) ∧ B ≤ gs.getD q 0 := by
  have hrow := h.rows q hq
  have hR := h.row
  obtain ⟨_, inner, ho, _⟩ := h.row
  have hl := h.len
  rcases ho.2 with ⟨rfl, h0⟩ | ⟨g, cap, cur, rfl, hb, hh, hn, _, _, _⟩
  · omega
  · refine ⟨g, cap, by rw [hl], ?_, (blk_cell hrow.2.1 f).trans (by simp [hf]), blk_frozen hrow.2.1 f, ⟨cur, hh⟩, ⟨_, hrow.2.1⟩, hrow.1⟩
    have hr := Kd.R_reads' hR
    obtain ⟨_, _, h3⟩ := hr.2.2
    obtain ⟨ad, e, hcell⟩ := h3 (by omega)
    injection e with e
    subst e
    obtain ⟨cs, hcs, hK, hx⟩ := hcell q (gs.getD q 0) (by have : q < gs.length := by omega
                                                          simp [List.getD_eq_getElem?_getD, this])
    obtain rfl : cs = [.slice (some ⟨gs.getD q 0, 0, none⟩) m m] := hK
    have := hx 0 _ rfl
    rw [show (Addr.add ⟨g, 0, none⟩ (q * (kRow m).sz + 0)) = ⟨g, q, none⟩ by rw [show (kRow m).sz = 1 from rfl]; simp [Addr.add]; exact fun e => e.symm] at this
    exact this
theorem GL.far {w W : World} {x y z : Value} {bl : Nat} {L : List ByteArray} (h : GL w W x y z bl L) {a j : Nat} (ha : w.heap.size + 2 ≤ a) (hne : bl ≠ a) (u : Value) : GL w (W.setCell ⟨a, j, none⟩ u) x y z bl L :=
  ⟨⟨h.g.hb.setCell (p := ⟨a, j, none⟩) (by show w.heap.size ≤ a; omega) _, blk_far h.g.ha (by show w.heap.size ≠ a; omega) _, blk_far h.g.he (by show w.heap.size + 1 ≠ a; omega) _⟩, blk_far h.l hne _, h.hbl⟩
end Go.Proofs.YtbmcigakiibncaaGreatDoor.H
namespace Go.Proofs.YtbmcigakiibncaaGreatDoor.H
open Go.RowKit Go.Proofs.YtbmcigakiibncaaGreatDoorW.PrintWords Go.Proofs.YtbmcigakiibncaaGreatDoorW.PrintLast Go.Proofs.YtbmcigakiibncaaGreatDoorW.PrintMore
set_option linter.unusedVariables false
set_option linter.unusedSimpArgs false
def tabT21 : Bool × List (List Nat × List Nat) := (true, [([], []), ([0], [0]), ([1], [1]), ([], []), ([3], [3]), ([2, 4], [2, 4]), ([], []), ([6, 5, 2, 0, 1, 2, 3, 4, 5, 6], [5, 6])])
theorem tab21 : rtab .any (opsOf Tryz.f21 4) = tabT21 := by kernel_rfl
theorem bits21 : waitsOk tabT21.2 [0, 1, 3, 0, 8, 31, 0, 127] = true := by kernel_rfl
theorem clone_calls (A : Option Addr) (c : Nat) (rk : List Int) (w : World) (hr : Kd.C (Kd.int .i64) w A rk.length rk) (hn : rk.length ≤ 24) :
    Calls Tryz.prog 49 #[.slice A rk.length c] w fun e w' => ∃ v', e = .returned v' ∧ Kd.R (Kd.int .i64) 3 w' w.heap.size (fun k => w.heap.size ≤ k) v' rk ∧ Below w.heap.size w w' := by
  have key : ∀ (v : Value) (w' : World), w'.ownsRow w.heap.size 3 1 v rk.length (rk.map (Value.int .i64)) → Kd.R (Kd.int .i64) 3 w' w.heap.size (fun k => w.heap.size ≤ k) v rk := fun v w' h =>
    Kd.R_of_own h (fun k hk => (h.lt k hk).1)
  cases A with
  | none =>
    refine (Tryz.slices_Clone_int_nil rk.length c w).mono ?_
    rintro e w' ⟨rfl, rfl⟩
    have h0 : rk = [] := by
      cases rk with
      | nil => rfl
      | cons a r => obtain ⟨ad, e, _⟩ := Kd.at_int hr 0 (by omega) (by simp); cases e
    subst h0
    exact ⟨_, rfl, Kd.R_nil _ _ _ _ _, Below.refl _ _⟩
  | some ad =>
    by_cases h0 : rk.length = 0
    · obtain rfl : rk = [] := List.length_eq_zero_iff.1 h0
      refine (Any.slices_Clone_int_zero Tryz.laysNm215 ad c w).mono ?_
      rintro e w' ⟨v', rfl, ho, _, hb⟩
      exact ⟨v', rfl, key v' w' ho, hb⟩
    · have hcell : ∀ j, j < rk.length → w.cell? (ad.add j) = some (.int .i64 (rk.getD j 0)) := by
        intro j hj
        obtain ⟨ad2, e, hk⟩ := Kd.at_int hr (j : Int) (by omega) (by omega)
        injection e with e
        subst e
        rw [Int.toNat_natCast] at hk
        rw [hk]
        simp [rd]
      have hsp : ad.spot = none := by
        have h1 := hcell 0 (by omega)
        rw [show ad.add 0 = ad by unfold Addr.add; simp] at h1
        unfold World.cell? at h1
        split at h1
        · split at h1
          · cases h1
          · rename_i hn; simpa using hn
        · cases h1
      obtain ⟨b, off, sp⟩ := ad
      obtain rfl : sp = none := hsp
      refine (Tryz.slices_Clone_int b off rk.length c rk w (Nat.le_refl _) (by omega) (fun j hj => by
        have := hcell j hj
        rwa [show (Addr.add ⟨b, off, none⟩ j) = ⟨b, off + j, none⟩ by unfold Addr.add; split <;> simp_all] at this)).mono ?_
      rintro e w' ⟨v', rfl, ho, _, hb⟩
      rw [List.take_length] at ho
      exact ⟨v', rfl, key v' w' ho, hb⟩
structure DW (w W : World) (a0 a1 a2 r0 r1 r2 : Value) : Prop where
  hb : Below w.heap.size w W
  h1 : W.heap[w.heap.size]? = some (.cells #[a0, a1, a2] 25 (0, 0))
  h2 : W.heap[w.heap.size + 1]? = some (.cells #[r0, r1, r2] 25 (0, 0))
theorem DW.start (w : World) (a0 a1 a2 : Value) : DW w ((w.alloc (.cells #[a0, a1, a2] 25)).alloc (.cells #[.slice none 0 0, .int .i64 0, .slice none 0 0] 25)) a0 a1 a2 (.slice none 0 0) (.int .i64 0) (.slice none 0 0) :=
  ⟨below_alloc (below_alloc (Below.refl _ _) _) _, blk_alloc (blk_new w _) _, blk_at2 w _ _⟩
theorem DW.below {w W W1 : World} {a0 a1 a2 r0 r1 r2 : Value} (h : DW w W a0 a1 a2 r0 r1 r2) (hb : Below W.heap.size W W1) : DW w W1 a0 a1 a2 r0 r1 r2 := ⟨below_then h.hb h.hb.size hb, blk_below h.h1 hb, blk_below h.h2 hb⟩
theorem DW.cells {w W : World} {a0 a1 a2 r0 r1 r2 : Value} (h : DW w W a0 a1 a2 r0 r1 r2) : W.cell? ⟨w.heap.size, 0, none⟩ = some a0 ∧ W.cell? ⟨w.heap.size, 1, none⟩ = some a1 ∧ W.cell? ⟨w.heap.size, 2, none⟩ = some a2 :=
  ⟨(blk_cell h.h1 0).trans rfl, (blk_cell h.h1 1).trans rfl, (blk_cell h.h1 2).trans rfl⟩
theorem DW.rcells {w W : World} {a0 a1 a2 r0 r1 r2 : Value} (h : DW w W a0 a1 a2 r0 r1 r2) : (W.cell? ⟨w.heap.size + 1, 0, none⟩ = some r0 ∧ W.cell? ⟨w.heap.size + 1, 1, none⟩ = some r1 ∧ W.cell? ⟨w.heap.size + 1, 2, none⟩ = some r2) ∧ W.frozen? ⟨w.heap.size + 1, 0, none⟩ = false ∧ W.frozen? ⟨w.heap.size + 1, 1, none⟩ = false ∧ W.frozen? ⟨w.heap.size + 1, 2, none⟩ = false :=
  ⟨⟨(blk_cell h.h2 0).trans rfl, (blk_cell h.h2 1).trans rfl, (blk_cell h.h2 2).trans rfl⟩, blk_frozen h.h2 0, blk_frozen h.h2 1, blk_frozen h.h2 2⟩
theorem DW.far {w W : World} {a0 a1 a2 r0 r1 r2 : Value} (h : DW w W a0 a1 a2 r0 r1 r2) {a j : Nat} (ha : w.heap.size + 2 ≤ a) (u : Value) : DW w (W.setCell ⟨a, j, none⟩ u) a0 a1 a2 r0 r1 r2 :=
  ⟨h.hb.setCell (p := ⟨a, j, none⟩) (by show w.heap.size ≤ a; omega) _, blk_far h.h1 (by show w.heap.size ≠ a; omega) _, blk_far h.h2 (by show w.heap.size + 1 ≠ a; omega) _⟩
theorem DW.grown {w W W1 : World} {a0 a1 a2 r0 r1 r2 : Value} (h : DW w W a0 a1 a2 r0 r1 r2) {row : Option Nat} (hb : Below w.heap.size w W1) (hg : W.grownBy W1 row) (hne : ∀ k, row = some k → w.heap.size + 2 ≤ k) : DW w W1 a0 a1 a2 r0 r1 r2 :=
  ⟨hb, blk_grown h.h1 hg (fun e => by have := hne _ e.symm; omega), blk_grown h.h2 hg (fun e => by have := hne _ e.symm; omega)⟩
def put3 (W : World) (g : Nat) (x y z : Value) : World := ((W.setCell ⟨g, 0, none⟩ x).setCell ⟨g, 1, none⟩ y).setCell ⟨g, 2, none⟩ z
theorem DW.put {w W : World} {a0 a1 a2 r0 r1 r2 : Value} (h : DW w W a0 a1 a2 r0 r1 r2) (x y z : Value) : DW w (put3 W (w.heap.size + 1) x y z) a0 a1 a2 x y z :=
  ⟨((h.hb.setCell (p := ⟨w.heap.size + 1, 0, none⟩) (Nat.le_succ _) _).setCell (p := ⟨w.heap.size + 1, 1, none⟩) (Nat.le_succ _) _).setCell (p := ⟨w.heap.size + 1, 2, none⟩) (Nat.le_succ _) _,
    blk_far (blk_far (blk_far h.h1 (by show w.heap.size ≠ w.heap.size + 1; omega) _) (by show w.heap.size ≠ w.heap.size + 1; omega) _) (by show w.heap.size ≠ w.heap.size + 1; omega) _,
    blk_set (blk_set (blk_set h.h2 0 x) 1 y) 2 z⟩
theorem put3_heap (W : World) (g : Nat) (x y z : Value) (k : Nat) (h : k ≠ g) : (put3 W g x y z).heap[k]? = W.heap[k]? := by
  unfold put3
  rw [Below.heap_setCell _ _ _ _ h, Below.heap_setCell _ _ _ _ h, Below.heap_setCell _ _ _ _ h]
def DualJ (w : World) (A1 : Option Addr) (c1 : Nat) (A2 : Option Addr) (c2 : Nat) (rk : List Int) (st : Int) (n : Nat) (s : Option Addr × Nat × Nat) (W : World) : Prop :=
  DW w W (.slice A1 rk.length c1) (.int .i64 st) (.slice A2 n c2) (.slice none 0 0) (.int .i64 0) (.slice none 0 0) ∧ Kd.R (Kd.int .i64) 3 W w.heap.size (fun k => w.heap.size + 2 ≤ k) (.slice s.1 rk.length s.2.1) rk ∧
    W.heap[s.2.2]? = some (.cells #[.slice none 0 0, .int .i64 0, .slice none 0 0] 25 (0, 0)) ∧ w.heap.size + 1 < s.2.2 ∧ (Value.slice s.1 rk.length s.2.1).ownBlock ≠ some s.2.2
def rowD (row : List (List (List Nd))) : List (List (List Nd)) := row.map dualD
def mvOkD (M : Mv) : Bool := M.all fun row => row.all dualOk
def dualR (rk : List Int) (st : Int) (M : Mv) : Int × List Int × Int × Mv := if auB rk st M then (if mvOkD M then (0, rk, st, M.map rowD) else (3, [], 0, [])) else (10, [], 0, [])
def DualRE (d : Int × List Int × Int × Mv) (w : World) (E : Ending) (w' : World) : Prop :=
  ∃ v1 v2, E = .returned (.tuple #[.agg #[v1, .int .i64 d.2.2.1, v2], .int .i64 d.1]) ∧ Kd.R (Kd.int .i64) 3 w' w.heap.size (fun k => w.heap.size ≤ k) v1 d.2.1 ∧ kA3.R 65 w' w.heap.size (fun k => w.heap.size ≤ k) v2 d.2.2.2 ∧ Below w.heap.size w w'
theorem results_row_tmp {P : Program} {fn : Func} {p u : Tmp} {ty : TypeId} (h : fn.results = #[.cell p ty, .tmp u]) (tmps : Array Value) (w : World) (g : Nat) (t : TypeId) (cs : Array Value) (fr : Nat × Nat) (d : TypeDesc)
    (hp : tmps.getD p undef = .pointer (some ⟨g, 0, none⟩)) (hg : w.heap[g]? = some (.cells cs t fr))
    (hu : P.underlying ty = some d) (hd : (match d with | .struct _ | .array _ _ => true | _ => false) = true) (hi : (P.info? ty).map (·.size) = some cs.size) :
    (results fn tmps).run P w = .ok (.tuple #[.agg cs, tmps.getD u undef]) w := by
  rw [results_cell_tmp h, hp]
  simp only [asAddr, Sem.run_pure, Result.andThen_ok, run_loadVar_row w g t ty cs fr d hg hu hd hi]
theorem inN_of {rk : List Int} {st : Int} {M : Mv} (h : AuOk rk st M) {row : List (List (List Nd))} (hr : row ∈ M) {a : List (List Nd)} (ha : a ∈ row) : a.length ≤ 12 ∧ ∀ l ∈ a, l.length ≤ 24 ∧ ∀ x ∈ l, InN x :=
  ⟨h.alts row hr a ha, fun l hl => ⟨h.lens row hr a ha l hl, fun x hx => h.nds row hr a ha l hl x hx⟩⟩
structure DO (w : World) (b5 : Nat) (a0 a1 a2 : Value) (rk : List Int) (st : Int) (vr vm : Value) (S : Nat → Prop) (Ms : Mv) (W : World) : Prop where
  dw : DW w W a0 a1 a2 (.slice none 0 0) (.int .i64 0) (.slice none 0 0)
  bx : W.heap[b5]? = some (.cells #[vr, .int .i64 st, vm] 25 (0, 0))
  hbl : w.heap.size + 1 < b5
  rr : Kd.R (Kd.int .i64) 3 W w.heap.size (fun k => w.heap.size + 2 ≤ k) vr rk
  hne : vr.ownBlock ≠ some b5
  hS : ∀ k, S k → b5 < k
  rm : kA3.R 65 W w.heap.size S vm Ms
theorem DO.move {w : World} {b5 : Nat} {a0 a1 a2 : Value} {rk : List Int} {st : Int} {vr vm : Value} {S : Nat → Prop} {Ms : Mv} {W W1 : World} (h : DO w b5 a0 a1 a2 rk st vr vm S Ms W) (hb : Below W.heap.size W W1) : DO w b5 a0 a1 a2 rk st vr vm S Ms W1 :=
  ⟨h.dw.below hb, blk_below h.bx hb, h.hbl, Kd.R_below h.rr hb, h.hne, h.hS, Kd.R_below h.rm hb⟩
theorem DO.bound {w : World} {b5 : Nat} {a0 a1 a2 : Value} {rk : List Int} {st : Int} {vr vm : Value} {S : Nat → Prop} {Ms : Mv} {W : World} (h : DO w b5 a0 a1 a2 rk st vr vm S Ms W) : DO w b5 a0 a1 a2 rk st vr vm (fun k => b5 < k ∧ k < W.heap.size) Ms W :=
  ⟨h.dw, h.bx, h.hbl, h.rr, h.hne, fun k hk => hk.1, Kd.R_mono (Kd.R_bound h.rm) (fun k hk => ⟨h.hS k hk.1, hk.2.2.1⟩)⟩
theorem DO.mono {w : World} {b5 : Nat} {a0 a1 a2 : Value} {rk : List Int} {st : Int} {vr vm : Value} {S : Nat → Prop} {Ms : Mv} {W : World} (h : DO w b5 a0 a1 a2 rk st vr vm S Ms W) : DO w b5 a0 a1 a2 rk st vr vm (fun k => b5 < k) Ms W :=
  ⟨h.dw, h.bx, h.hbl, h.rr, h.hne, fun k hk => hk, Kd.R_mono h.rm h.hS⟩
theorem DO.far {w : World} {b5 : Nat} {a0 a1 a2 : Value} {rk : List Int} {st : Int} {vr vm : Value} {S : Nat → Prop} {Ms : Mv} {W : World} (h : DO w b5 a0 a1 a2 rk st vr vm S Ms W) {g j : Nat} {cs : Array Value} (hg : W.heap[g]? = some (.cells cs 66 (0, 0))) (hb : b5 < g) (hS : ∀ k, S k → k ≠ g) (u : Value) :
    DO w b5 a0 a1 a2 rk st vr vm S Ms (W.setCell ⟨g, j, none⟩ u) :=
  ⟨h.dw.far (by have := h.hbl; omega) u, blk_far h.bx (by show b5 ≠ g; omega) u, h.hbl, R_other h.rr g (fun e => by obtain ⟨⟨c, hc⟩, _⟩ := ownBlock_typed h.rr e; exact types_ne hc hg (by decide) rfl) (fun _ h => by cases h) (fun k hk _ => Below.heap_setCell _ _ _ k hk), h.hne, h.hS,
    Kd.R_far h.rm (p := ⟨g, j, none⟩) (fun k hk he => hS k hk he) u⟩
theorem DO.put {w : World} {b5 : Nat} {a0 a1 a2 : Value} {rk : List Int} {st : Int} {vr vm v1 : Value} {Ms : Mv} {W W1 : World} (h : DO w b5 a0 a1 a2 rk st vr vm (fun k => b5 < k) Ms W) (row : List (List (List Nd)))
    (hr : kA3.R 65 W1 w.heap.size (fun k => b5 < k) v1 (Ms ++ [row])) (hb1 : Below w.heap.size w W1) (hg : W.grownBy W1 vm.ownBlock) : DO w b5 a0 a1 a2 rk st vr v1 (fun k => b5 < k) (Ms ++ [row]) (W1.setCell ⟨b5, 2, none⟩ v1) := by
  have hbx := blk_grown h.bx hg (fun e => by have := h.rm.1 _ e.symm; omega)
  have hrr := R_grown9 h.rr h.rm (by decide) (fun _ h => by cases h) hg
  exact ⟨(h.dw.grown hb1 hg (fun k hk => by have h1 := h.rm.1 k hk; have h2 : b5 < k := h1; have := h.hbl; omega)).far (by have := h.hbl; omega) v1, blk_set hbx 2 v1, h.hbl,
    R_other hrr b5 h.hne (fun _ h => by cases h) (fun k hk _ => Below.heap_setCell _ _ _ k hk), h.hne, fun k hk => hk, Kd.R_far hr (p := ⟨b5, 2, none⟩) (fun k hk he => by have h1 : b5 < k := hk; have h2 : k = b5 := he; omega) v1⟩
theorem R_rep (W : World) (base n : Nat) (hb : base ≤ W.heap.size) (hn : n ≤ maxLen) : kA2.R 66 (W.alloc (.cells (madeCells #[.slice none 0 0] n) 66)) base (fun k => W.heap.size ≤ k) (.slice (some ⟨W.heap.size, 0, none⟩) n n) (List.replicate n []) := by
  have hsz : kA2.sz = 1 := rfl
  rw [made_rep]
  refine ⟨fun k hk => ?_, List.replicate n (.slice none 0 0), ⟨by simp [hsz], .inr ⟨W.heap.size, n, _, by rw [List.length_replicate], hb, blk_new W _, by simp, hn, by simp [hsz], by simp [hsz]⟩⟩, by simp [hsz], fun j p hj => ?_⟩
  · have : W.heap.size = k := by simpa [Value.ownBlock] using hk
    omega
  · obtain ⟨hjl, hjp⟩ := List.getElem?_eq_some_iff.1 hj
    rw [List.length_replicate] at hjl
    refine ⟨.slice none 0 0, ?_, ?_⟩
    · rw [hsz, Nat.mul_one, List.drop_replicate]
      rw [show n - j = (n - j - 1) + 1 by omega]; rfl
    · rw [← hjp, List.getElem_replicate]
      exact Kd.R_nil _ _ _ _ _
theorem R_puts {α : Type} {d : Kd α} {e t base g n cap : Nat} {ok okp : Nat → Prop} {W : World} {xs : List (List α)} {v : Value} {x : List α} (h : (Kd.slice e d).R t W base ok (.slice (some ⟨g, 0, none⟩) n cap) xs) (i : Nat) (hi : i < n) (hv : d.R e W base okp v x) (hokp : ∀ k, okp k → ok k ∧ k ≠ g) :
    (Kd.slice e d).R t (W.setCell ⟨g, i, none⟩ v) base ok (.slice (some ⟨g, 0, none⟩) n cap) (xs.set i x) ∧ W.grownBy (W.setCell ⟨g, i, none⟩ v) (some g) := by
  obtain ⟨c, hcl, _, hcc, _⟩ := Kd.R_elem h [] (i : Int) (by omega) (by omega)
  have hs : (Kd.slice e d).sz = 1 := rfl
  have := Kd.R_seg h (i : Int) (by omega) (by omega) (c := c) (seg := [v]) (j := 0) hcl hcc (by rw [hs]; exact Nat.le_refl _) (x' := x) (okp := okp) (by
    rw [hs] at hcl
    rw [List.take_zero, List.nil_append, List.drop_eq_nil_of_le (by simp; omega), List.append_nil]
    exact ⟨v, rfl, hv⟩) hokp
  rw [hs, Int.toNat_natCast, Nat.mul_one, Nat.add_zero] at this
  exact this
theorem R_cell1 {α : Type} {d : Kd α} {e t base g n cap : Nat} {ok : Nat → Prop} {W : World} {xs : List (List α)} (h : (Kd.slice e d).R t W base ok (.slice (some ⟨g, 0, none⟩) n cap) xs) (i : Nat) (hi : i < n) : ∃ u, W.cell? ⟨g, i, none⟩ = some u ∧ W.frozen? ⟨g, i, none⟩ = false := by
  obtain ⟨c, hcl, hM, hcc, hf⟩ := Kd.R_elem h [] (i : Int) (by omega) (by omega)
  obtain ⟨u, rfl, hR⟩ := hM
  have hs : (Kd.slice e d).sz = 1 := rfl
  have h0 := hcc 0 u rfl
  have h1 := hf 0
  rw [hs, Int.toNat_natCast, Nat.mul_one, Nat.add_zero] at h0 h1
  exact ⟨u, h0, h1⟩
theorem set_row {α : Type} {n f : Nat} {r : List (List α)} (hr : r.length = f) (hf : f < n) (y : List α) : (r ++ List.replicate (n - f) []).set f y = (r ++ [y]) ++ List.replicate (n - (f + 1)) [] := by
  obtain ⟨m, hm⟩ : ∃ m, n - f = m + 1 := ⟨n - f - 1, by omega⟩
  rw [hm, List.set_append_right _ _ (by omega), List.replicate_succ, show f - r.length = 0 by omega, List.set_cons_zero, show n - (f + 1) = m by omega, List.append_assoc, List.singleton_append]
set_option maxHeartbeats 16000000 in
set_option maxRecDepth 100000 in
theorem adual_calls (rk : List Int) (M : Mv) (st : Int) (A1 : Option Addr) (c1 : Nat) (A2 : Option Addr) (c2 : Nat) (w : World)
    (hr : Kd.C (Kd.int .i64) w A1 rk.length rk) (hc1 : rk.length ≤ c1) (hM : Kd.C kA3 w A2 M.length M) (ht : TabD w) :
    Calls Tryz.prog 21 #[.agg #[.slice A1 rk.length c1, .int .i64 st, .slice A2 M.length c2]] w (DualRE (dualR rk st M) w) := by
  have HR := Aside0.mk hr
  have HM := Aside0.mk hM
  have HT := Aside0.mk ht
  have HD := Aside0.mk (DW.start w (.slice A1 rk.length c1) (.int .i64 st) (.slice A2 M.length c2))
  have HCK := Aside0.mk (acheckG_calls rk M st A1 c1 A2 c2 _ (Kd.C_below hr (HD.out).hb) hc1 (Kd.C_below hM (HD.out).hb))
  clear hr hc1 hM ht
  go_enter Tryz.func21, Tryz.ntmps21
  go_upto_region 1 with (fail)
  generalize ((w.alloc (.cells #[.slice A1 rk.length c1, .int .i64 st, .slice A2 M.length c2] 25)).alloc (.cells #[.slice none 0 0, .int .i64 0, .slice none 0 0] 25)) = W1 at *
  obtain ⟨k0, k1, k2⟩ := (HD.out).cells
  cases hau : auB rk st M with
  | false =>
    rw [chk_false hau] at HCK
    have HP := Aside0.mk (show dualR rk st M = (10, [], 0, []) by unfold dualR; rw [hau]; rfl)
    clear hau
    go_wp2_with fail
    refine (HCK.out).mono ?_
    rintro E W2 ⟨rfl, hb⟩
    have HD2 := Aside0.mk ((HD.out).below hb)
    clear hb k0 k1 k2
    obtain ⟨⟨k0, k1, k2⟩, f0, f1, f2⟩ := (HD2.out).rcells
    have HD3 := Aside0.mk ((HD2.out).put (.slice none 0 0) (.int .i64 0) (.slice none 0 0))
    unfold put3 at HD3
    go_wp2
    refine bodyPost_ret (results_row_tmp rfl _ _ (w.heap.size + 1) 25 #[.slice none 0 0, .int .i64 0, .slice none 0 0] (0, 0) _ rfl (HD3.out).h2 Tryz.underlying25 rfl (by kernel_rfl)) rfl ?_
    rw [HP.out]
    exact ⟨_, _, rfl, Kd.R_nil _ _ _ _ _, Kd.R_nil _ _ _ _ _, (HD3.out).hb⟩
  | true =>
  rw [chk_true hau] at HCK
  have HOK := Aside0.mk (auOk hau)
  have HPR := Aside0.mk (show dualR rk st M = if mvOkD M then (0, rk, st, M.map rowD) else (3, [], 0, []) by unfold dualR; rw [hau]; rfl)
  have HRL := Aside0.mk (show rk.length ≤ 24 from (HOK.out).nrk)
  clear hau
  go_wp2_with fail
  refine (HCK.out).mono ?_
  rintro E W2 ⟨rfl, hb⟩
  have HD2 := Aside0.mk ((HD.out).below hb)
  clear hb k0 k1 k2 HCK HD
  obtain ⟨k0, k1, k2⟩ := (HD2.out).cells
  have HD2d := Aside0.mk ((HD2.out).below (below_drew (Below.refl _ _)))
  have HHd := Aside0.mk (show w.heap.size + 2 ≤ W2.drew.heap.size from blk_lt (HD2d.out).h2)
  go_upto_region 4 with (fail)
  refine wp_region_noPanic ?_
  refine start_ (n := 8) (S := fun w' => w'.cell? ⟨w.heap.size, 0, none⟩ = some (.slice A1 rk.length c1) ∧ w'.cell? ⟨w.heap.size, 1, none⟩ = some (.int .i64 st)) (ds := [7]) #[false, false, false, false, false, false, false, false] (by kernel_rfl) rfl rfl ⟨pw_cell_below (below_drew (Below.refl _ _)) k0, pw_cell_below (below_drew (Below.refl _ _)) k1⟩ (fun hHeld => ?_)
  refine with_tabW tab21 bits21 (fun HT_ HW_ => ?_)
  clear k0 k1 k2
  generalize W2.drew = W3 at HD2d HHd hHeld ⊢
  refine take_ (i := 0) (N := some 19) (v := ?_) (a' := ?_) #[true, false, false, false, false, false, false, false] rfl rfl (take_ofW HT_.out HW_.out (by kernel_rfl)) (fun _ _ _ h => h) (Or.inl ⟨by rfl, ?_⟩) hHeld ?_ ?_
  rotate_left
  · rintro w' ⟨s0, s1⟩
    go_simp
    with_reducible rfl
  rotate_left
  · simp only [Act.put, List.setIfInBounds_toArray, List.set_cons_zero, List.set_cons_succ]
    rfl
  refine take_ (i := 1) (N := some 20) (v := ?_) (a' := ?_) #[true, true, false, false, false, false, false, false] rfl rfl (take_ofW HT_.out HW_.out (by kernel_rfl)) (fun _ _ _ h => h) (Or.inl ⟨by rfl, ?_⟩) hHeld ?_ ?_
  rotate_left
  · rintro w' ⟨s0, s1⟩
    go_simp
    with_reducible rfl
  rotate_left
  · simp only [Act.put, List.setIfInBounds_toArray, List.set_cons_zero, List.set_cons_succ]
    rfl
  refine take_ (i := 3) (N := some 22) (v := ?_) (a' := ?_) #[true, true, false, true, false, false, false, false] rfl rfl (take_ofW HT_.out HW_.out (by kernel_rfl)) (fun _ _ _ h => h) (Or.inl ⟨by rfl, ?_⟩) hHeld ?_ ?_
  rotate_left
  · rintro w' ⟨s0, s1⟩
    go_simp
    with_reducible rfl
  rotate_left
  · simp only [Act.put, List.setIfInBounds_toArray, List.set_cons_zero, List.set_cons_succ]
    rfl
  refine take_ (i := 4) (N := some 23) (v := ?_) (a' := ?_) #[true, true, false, true, true, false, false, false] rfl rfl (take_ofW HT_.out HW_.out (by kernel_rfl)) (fun _ _ _ h => h) (Or.inl ⟨by rfl, ?_⟩) hHeld ?_ ?_
  rotate_left
  · rintro w' ⟨s0, s1⟩
    go_simp
    with_reducible rfl
  rotate_left
  · simp only [Act.put, List.setIfInBounds_toArray, List.set_cons_zero, List.set_cons_succ]
    rfl
  refine join_ (σ := Option Addr × Nat × Nat) 1 #[true, true, true, true, true, true, true, false] (fun s => [(21, .slice s.1 rk.length s.2.1), (24, (.agg #[.slice s.1 rk.length s.2.1, .int .i64 st, .slice none 0 0])), (5, .pointer (some ⟨s.2.2, 0, none⟩))]) (DualJ w A1 c1 A2 c2 rk st M.length) ?cont (fun hcont => ?orders)
  case orders =>
    refine two_ (i := 2) (j := 6) (Ni := some 21) (Nj := some 5) #[true, true, true, true, true, false, false, false] #[true, true, false, true, true, false, true, false] rfl rfl rfl rfl (two_of HT_.out (by kernel_rfl)) (by decide) (by decide) (fun K hK => ?_) (fun K hK => ?_)
    · refine goes_ (f := 49) Tryz.func49 (by kernel_rfl) rfl #[.slice A1 rk.length c1] (by rfl) rfl rfl (by (try simp only [List.map_toArray, List.map_cons, List.map_nil]); rfl) ?_
      refine (clone_calls A1 c1 rk _ (Kd.C_below HR.out (HD2d.out).hb) HRL.out).mono ?_
      rintro E W4 ⟨v9, rfl, hR9, hb9⟩
      obtain ⟨A9, c9, e9⟩ := Kd.R_slice hR9
      subst e9
      have HD9 := Aside0.mk ((HD2d.out).below hb9)
      have HR9 := Aside0.mk (show Kd.R (Kd.int .i64) 3 _ w.heap.size (fun k => w.heap.size + 2 ≤ k) (.slice A9 rk.length c9) rk from Kd.R_lower (Kd.R_mono hR9 (fun k hk => Nat.le_trans (HHd.out) hk)) (by have := HHd.out; omega))
      refine ⟨_, rfl, ?_⟩
      refine hK.out _ _ ⟨(HD9.out).cells.1, (HD9.out).cells.2.1⟩ (fun hHeld => ?_)
      clear hK K
      refine norm_ (a' := ?_) ?_ ?_
      rotate_left
      · show Act.put _ (some 21) _ = _
        simp only [Act.put, List.setIfInBounds_toArray, List.set_cons_zero, List.set_cons_succ]
        rfl
      refine take_ (i := 5) (N := some 24) (v := ?_) (a' := ?_) #[true, true, true, true, true, true, false, false] rfl rfl (take_ofW HT_.out HW_.out (by kernel_rfl)) (fun _ _ _ h => h) (Or.inl ⟨by rfl, ?_⟩) hHeld ?_ ?_
      rotate_left
      · rintro w' ⟨s0, s1⟩
        go_simp
        with_reducible rfl
      rotate_left
      · simp only [Act.put, List.setIfInBounds_toArray, List.set_cons_zero, List.set_cons_succ]
        rfl
      refine one_ (i := 6) (N := some 5) #[true, true, true, true, true, true, true, false] rfl rfl (one_of HT_.out (by kernel_rfl)) (by decide) (fun K hK => ?_)
      refine box_step (by rfl) (N := 5) ?hd (cs := #[.slice none 0 0, .int .i64 0, .slice none 0 0]) (t := 25) ?hr ?_
      (case hd => rfl)
      (case hr => first | (go_simp; done) | (go_simp; rfl))
      intro b5 hg W5 hbox hb5
      have HBL := Aside0.mk (show w.heap.size + 1 < b5 by rw [hg]; exact blk_lt (HD9.out).h2)
      have HBX := Aside0.mk hbox
      have HD5 := Aside0.mk ((HD9.out).below hb5)
      have HR5 := Aside0.mk (Kd.R_below HR9.out hb5)
      have HNE := Aside0.mk (show (Value.slice A9 rk.length c9).ownBlock ≠ some b5 from fun e => by have := (ownBlock_typed HR9.out e).2; omega)
      refine hK.out _ _ ⟨(HD5.out).cells.1, (HD5.out).cells.2.1⟩ (fun hHeld => ?_)
      clear hK K
      refine norm_ (a' := ?_) ?_ ?_
      rotate_left
      · show Act.put _ (some 5) _ = _
        simp only [Act.put, List.setIfInBounds_toArray, List.set_cons_zero, List.set_cons_succ]
        rfl
      exact norm_ (by simp only [putAll, Act.put, List.setIfInBounds_toArray, List.set_cons_zero, List.set_cons_succ]) (hcont (A9, c9, b5) _ ⟨HD5.out, HR5.out, HBX.out, HBL.out, HNE.out⟩)
    · refine box_step (by rfl) (N := 5) ?hd (cs := #[.slice none 0 0, .int .i64 0, .slice none 0 0]) (t := 25) ?hr ?_
      (case hd => rfl)
      (case hr => first | (go_simp; done) | (go_simp; rfl))
      intro b5 hg W5 hbox hb5
      have HBL := Aside0.mk (show w.heap.size + 1 < b5 by rw [hg]; exact blk_lt (HD2d.out).h2)
      have HBX := Aside0.mk hbox
      have HD5 := Aside0.mk ((HD2d.out).below hb5)
      refine hK.out _ _ ⟨(HD5.out).cells.1, (HD5.out).cells.2.1⟩ (fun hHeld => ?_)
      clear hK K
      refine norm_ (a' := ?_) ?_ ?_
      rotate_left
      · show Act.put _ (some 5) _ = _
        simp only [Act.put, List.setIfInBounds_toArray, List.set_cons_zero, List.set_cons_succ]
        rfl
      have HHe := Aside0.mk (show w.heap.size + 2 ≤ W5.heap.size from by have := HHd.out; have := hb5.size; omega)
      refine one_ (i := 2) (N := some 21) #[true, true, true, true, true, false, true, false] rfl rfl (one_of HT_.out (by kernel_rfl)) (by decide) (fun K hK => ?_)
      refine goes_ (f := 49) Tryz.func49 (by kernel_rfl) rfl #[.slice A1 rk.length c1] (by rfl) rfl rfl (by (try simp only [List.map_toArray, List.map_cons, List.map_nil]); rfl) ?_
      refine (clone_calls A1 c1 rk _ (Kd.C_below HR.out (HD5.out).hb) HRL.out).mono ?_
      rintro E W6 ⟨v9, rfl, hR9, hb9⟩
      obtain ⟨A9, c9, e9⟩ := Kd.R_slice hR9
      subst e9
      have HD9 := Aside0.mk ((HD5.out).below hb9)
      have HR9 := Aside0.mk (show Kd.R (Kd.int .i64) 3 _ w.heap.size (fun k => w.heap.size + 2 ≤ k) (.slice A9 rk.length c9) rk from Kd.R_lower (Kd.R_mono hR9 (fun k hk => Nat.le_trans (HHe.out) hk)) (by have := HHe.out; omega))
      have HBX9 := Aside0.mk (blk_below HBX.out hb9)
      have HNE := Aside0.mk (show (Value.slice A9 rk.length c9).ownBlock ≠ some b5 from fun e => by have h1 := hR9.1 _ e; have h2 := blk_lt HBX.out; have h3 : W5.heap.size ≤ b5 := h1; omega)
      refine ⟨_, rfl, ?_⟩
      refine hK.out _ _ ⟨(HD9.out).cells.1, (HD9.out).cells.2.1⟩ (fun hHeld => ?_)
      clear hK K
      refine norm_ (a' := ?_) ?_ ?_
      rotate_left
      · show Act.put _ (some 21) _ = _
        simp only [Act.put, List.setIfInBounds_toArray, List.set_cons_zero, List.set_cons_succ]
        rfl
      refine take_ (i := 5) (N := some 24) (v := ?_) (a' := ?_) #[true, true, true, true, true, true, true, false] rfl rfl (take_ofW HT_.out HW_.out (by kernel_rfl)) (fun _ _ _ h => h) (Or.inl ⟨by rfl, ?_⟩) hHeld ?_ ?_
      rotate_left
      · rintro w' ⟨s0, s1⟩
        go_simp
        with_reducible rfl
      rotate_left
      · simp only [Act.put, List.setIfInBounds_toArray, List.set_cons_zero, List.set_cons_succ]
        rfl
      exact norm_ (by simp only [putAll, Act.put, List.setIfInBounds_toArray, List.set_cons_zero, List.set_cons_succ]) (hcont (A9, c9, b5) _ ⟨HD9.out, HR9.out, HBX9.out, HBL.out, HNE.out⟩)
  case cont =>
    rintro ⟨A9, c9, b5⟩ W6 ⟨hD, hR9, hbx, hbl, hne⟩
    dsimp only at hD hR9 hbx hbl hne
    refine norm_ (a' := ?_) ?_ ?_
    rotate_left
    · show putAll _ _ = _
      simp only [putAll, Act.put, List.setIfInBounds_toArray, List.set_cons_zero, List.set_cons_succ]
      rfl
    have kb0 : W6.cell? ⟨b5, 0, none⟩ = some (.slice none 0 0) := (blk_cell hbx 0).trans rfl
    have kb1 : W6.cell? ⟨b5, 1, none⟩ = some (.int .i64 0) := (blk_cell hbx 1).trans rfl
    have kb2 : W6.cell? ⟨b5, 2, none⟩ = some (.slice none 0 0) := (blk_cell hbx 2).trans rfl
    have fb0 := blk_frozen hbx 0
    have fb1 := blk_frozen hbx 1
    have fb2 := blk_frozen hbx 2
    have hother : ∀ (W : World) (j : Nat) (u : Value), Kd.R (Kd.int .i64) 3 W w.heap.size (fun k => w.heap.size + 2 ≤ k) (.slice A9 rk.length c9) rk → Kd.R (Kd.int .i64) 3 (W.setCell ⟨b5, j, none⟩ u) w.heap.size (fun k => w.heap.size + 2 ≤ k) (.slice A9 rk.length c9) rk := fun W j u h =>
      R_other h b5 hne (fun _ h => by cases h) (fun k hk _ => Below.heap_setCell _ _ _ k hk)
    have HDO := Aside0.mk (show DO w b5 (.slice A1 rk.length c1) (.int .i64 st) (.slice A2 M.length c2) rk st (.slice A9 rk.length c9) (.slice none 0 0) (fun k => b5 < k) [] (((W6.setCell ⟨b5, 0, none⟩ (.slice A9 rk.length c9)).setCell ⟨b5, 1, none⟩ (.int .i64 st)).setCell ⟨b5, 2, none⟩ (.slice none 0 0)) from
      ⟨((hD.far (by omega) _).far (by omega) _).far (by omega) _, blk_set (blk_set (blk_set hbx 0 _) 1 _) 2 _, hbl, hother _ 2 _ (hother _ 1 _ (hother _ 0 _ hR9)), hne, fun k hk => hk, Kd.R_nil _ _ _ _ _⟩)
    clear hD hR9 hbx hbl hne hother HD2d HHd HD2
    refine last_ (i := 7) (N := none) #[true, true, true, true, true, true, true, true] rfl rfl (one_of HT_.out (by kernel_rfl)) (by decide) (fun K hK => ?_)
    refine skip_ (w1 := ?_) (by rfl) rfl ?_ ?_
    rotate_left
    · go_simp
      rfl
    refine hK.out _ _ ?_
    clear hK K
    refine done_ (done_of HT_.out (by kernel_rfl)) ?_
    refine NoPanic.normal ?_
    clear kb0 kb1 kb2 fb0 fb1 fb2
    generalize ((W6.setCell ⟨b5, 0, none⟩ (.slice A9 rk.length c9)).setCell ⟨b5, 1, none⟩ (.int .i64 st)).setCell ⟨b5, 2, none⟩ (.slice none 0 0) = W7 at *
    obtain ⟨_, _, k2⟩ := (HDO.out).dw.cells
    have HNM := Aside0.mk (HOK.out).nM
    go_wp2
    clear k2
    go_loopg [28] M.length (fun gg v28 wi => ∃ (q : Nat) (vm : Value), q ≤ M.length ∧ M.length - q ≤ gg ∧ v28 = .int .i64 q ∧ Aside0 (DO w b5 (.slice A1 rk.length c1) (.int .i64 st) (.slice A2 M.length c2) rk st (.slice A9 rk.length c9) vm (fun k => b5 < k) ((M.take q).map rowD) wi) ∧ Aside0 (mvOkD (M.take q) = true))
    case atStart => exact ⟨0, _, Nat.zero_le _, Nat.le_refl _, rfl, HDO, ⟨rfl⟩⟩
    case round =>
      clear HDO
      obtain ⟨q, vm, hq, hgg, rfl, HO, HV⟩ := hrel
      by_cases hlt : q < M.length
      · have hltz : (q : Int) < (M.length : Int) := by omega
        have HLT := Aside0.mk hlt
        obtain ⟨ad, A0, c0, e, hk, hc0, hrow⟩ := at_sl HM.out q hlt
        subst e
        have hk2 := pw_cell_below (HO.out).dw.hb hk
        have HROW := Aside0.mk hrow
        have HRM := Aside0.mk (getD_memY [] hlt)
        have HKQ := Aside0.mk (show wrap64 ((q : Int) + 1) = ((q + 1 : Nat) : Int) by rw [wr_id (by omega) (by have := HNM.out; omega)]; rfl)
        have HTK := Aside0.mk (show (M.take (q + 1)).map rowD = (M.take q).map rowD ++ [rowD (M.getD q [])] by
          rw [List.take_add_one, List.map_append, List.getD_eq_getElem?_getD, List.getElem?_eq_getElem hlt]; rfl)
        have HTV := Aside0.mk (show mvOkD (M.take (q + 1)) = (mvOkD (M.take q) && (M.getD q []).all dualOk) by
          unfold mvOkD
          rw [List.take_add_one, List.all_append, List.getD_eq_getElem?_getD, List.getElem?_eq_getElem hlt]; simp)
        clear hk hc0 hrow hlt hq
        generalize M.getD q [] = row at *
        have HRL2 := Aside0.mk (show row.length ≤ 24 from by rw [(HOK.out).row row HRM.out]; exact HRL.out)
        have HB0 := Aside0.mk ((HO.out).bound)
        generalize wr = WR at *
        have HOA := Aside0.mk ((HB0.out).move (below_alloc (Below.refl _ _) (.cells (madeCells #[.slice none 0 0] row.length) 66)))
        have HRW := Aside0.mk (R_rep WR w.heap.size row.length ((HO.out).dw.hb.size) (by unfold maxLen; have := HRL2.out; omega))
        have HGB := Aside0.mk (blk_lt (HO.out).bx)
        have hmk : ∀ W : World, (Instr.makeSlice 65 (.int .i64 (row.length : Int)) (.int .i64 (row.length : Int))).run Tryz.prog W = .ok (.slice (some ⟨W.heap.size, 0, none⟩) row.length row.length) (W.alloc (.cells (madeCells #[.slice none 0 0] row.length) 66)) := fun W => run_make_row' 65 66 (.slice none 0 0) 24 Tryz.underlying65 Q.info66 rfl .i64 .i64 row.length (by have := HRL2.out; omega) (by have := HRL2.out; omega) W
        clear HO HB0
        go_upto_region 9 with (fail)
        clear hmk hk2 hltz
        have HGL := Aside0.mk (blk_new WR (.cells (madeCells #[.slice none 0 0] row.length) 66))
        generalize WR.alloc (.cells (madeCells #[.slice none 0 0] row.length) 66) = W8 at *
        generalize WR.heap.size = g at *
        go_wp2
        go_loopg [37] row.length (fun gg v37 wi => ∃ f : Nat, f ≤ row.length ∧ row.length - f ≤ gg ∧ v37 = .int .i64 f ∧ Aside0 (DO w b5 (.slice A1 rk.length c1) (.int .i64 st) (.slice (some ad) M.length c2) rk st (.slice A9 rk.length c9) vm (fun k => b5 < k ∧ k < g) ((M.take q).map rowD) wi) ∧ Aside0 (kA2.R 66 wi w.heap.size (fun k => g ≤ k) (.slice (some ⟨g, 0, none⟩) row.length row.length) ((row.take f).map dualD ++ List.replicate (row.length - f) [])) ∧ Aside0 ((row.take f).all dualOk = true))
        case atStart => exact ⟨0, Nat.zero_le _, Nat.le_refl _, rfl, HOA, HRW, ⟨rfl⟩⟩
        case round =>
          clear HOA HRW HGL
          obtain ⟨f, hf, hgg, rfl, HO, HW, HA⟩ := hrel
          by_cases hlt : f < row.length
          · have hltz : (f : Int) < (row.length : Int) := by omega
            have HLF := Aside0.mk hlt
            obtain ⟨ad3, A3, c3, e, hk, hc3, halt⟩ := at_sl HROW.out f hlt
            subst e
            have hk2 := pw_cell_below (HO.out).dw.hb hk
            have HAM := Aside0.mk (getD_memY [] hlt)
            have HKF := Aside0.mk (show wrap64 ((f : Int) + 1) = ((f + 1 : Nat) : Int) by rw [wr_id (by omega) (by have := HRL2.out; omega)]; rfl)
            have HTF := Aside0.mk (show (row.take (f + 1)).map dualD = (row.take f).map dualD ++ [dualD (row.getD f [])] by
              rw [List.take_add_one, List.map_append, List.getD_eq_getElem?_getD, List.getElem?_eq_getElem hlt]; rfl)
            have HTA := Aside0.mk (show (row.take (f + 1)).all dualOk = ((row.take f).all dualOk && dualOk (row.getD f [])) by
              rw [List.take_add_one, List.all_append, List.getD_eq_getElem?_getD, List.getElem?_eq_getElem hlt]; simp)
            have HTL := Aside0.mk (show ((row.take f).map dualD).length = f by rw [List.length_map, List.length_take]; omega)
            have HALT := Aside0.mk (Kd.C_below halt (HO.out).dw.hb)
            have HIN := Aside0.mk (inN_of HOK.out HRM.out HAM.out)
            clear hk hc3 halt hlt hf
            generalize row.getD f [] = alts at *
            have HDL := Aside0.mk (dual_calls alts A3 c3 wr HALT.out (HIN.out).1 (HIN.out).2 ((HT.out).below (HO.out).dw.hb))
            go_wp2_with fail
            refine (HDL.out).mono ?_
            rintro E W9 ⟨v9, rfl, hR, hb⟩
            have HO9 := Aside0.mk ((HO.out).move hb)
            have HW9 := Aside0.mk (Kd.R_below HW.out hb)
            have HR9 := Aside0.mk (show kA1.R 69 W9 w.heap.size (fun k => wr.heap.size ≤ k) v9 (dualD alts) from Kd.R_lower hR (HO.out).dw.hb.size)
            have HGW := Aside0.mk (show g < wr.heap.size from (ownBlock_typed HW.out rfl).2)
            have HGC := Aside0.mk (ownBlock_typed HW9.out (k := g) rfl).1
            clear hR hb hk2 hltz HO HW HDL
            cases hok : dualOk alts with
            | false =>
              have HP := Aside0.mk (show dualR rk st M = (3, [], 0, []) by
                rw [HPR.out, if_neg]
                intro h
                have h1 := List.all_eq_true.1 (List.all_eq_true.1 h row HRM.out) alts HAM.out
                rw [hok] at h1
                cases h1)
              clear hok
              obtain ⟨⟨k0, k1, k2⟩, f0, f1, f2⟩ := (HO9.out).dw.rcells
              have HD3 := Aside0.mk ((HO9.out).dw.put (.slice none 0 0) (.int .i64 0) (.slice none 0 0))
              unfold put3 at HD3
              go_wp2
              refine bodyPost_ret (results_row_tmp rfl _ _ (w.heap.size + 1) 25 #[.slice none 0 0, .int .i64 0, .slice none 0 0] (0, 0) _ rfl (HD3.out).h2 Tryz.underlying25 rfl (by kernel_rfl)) rfl ?_
              rw [HP.out]
              exact ⟨_, _, rfl, Kd.R_nil _ _ _ _ _, Kd.R_nil _ _ _ _ _, (HD3.out).hb⟩
            | true =>
              have HA2 := Aside0.mk (show (row.take (f + 1)).all dualOk = true by rw [HTA.out, HA.out, hok]; rfl)
              obtain ⟨uc, hcu, hfu⟩ := R_cell1 HW9.out f HLF.out
              obtain ⟨hW2, _⟩ := R_puts HW9.out f HLF.out HR9.out (fun k hk => by have h1 : wr.heap.size ≤ k := hk; have h2 := HGW.out; exact ⟨by show g ≤ k; omega, by omega⟩)
              have HW2 := Aside0.mk (show kA2.R 66 (W9.setCell ⟨g, f, none⟩ v9) w.heap.size (fun k => g ≤ k) (.slice (some ⟨g, 0, none⟩) row.length row.length) ((row.take (f + 1)).map dualD ++ List.replicate (row.length - (f + 1)) []) from by
                rw [HTF.out, ← set_row HTL.out HLF.out]; exact hW2)
              obtain ⟨cg, hcg⟩ := HGC.out
              have HO2 := Aside0.mk ((HO9.out).far (j := f) hcg HGB.out (fun k hk => by have := hk.2; omega) v9)
              obtain ⟨A10, c10, e10⟩ := Kd.R_slice (HR9.out)
              subst e10
              have hltz : (f : Int) < (row.length : Int) := by have := HLF.out; omega
              clear hok hW2 hcg
              go_wp2
              go_roundg (row.length - (f + 1))
              case measure => have := HLF.out; omega
              case rel => exact ⟨f + 1, HLF.out, Nat.le_refl _, by rw [HKF.out], HO2, HW2, HA2⟩
          · obtain rfl : f = row.length := by omega
            have HWF := Aside0.mk (show kA2.R 66 wr w.heap.size (fun k => g ≤ k) (.slice (some ⟨g, 0, none⟩) row.length row.length) (rowD row) from by have := HW.out; rw [List.take_length, Nat.sub_self, List.replicate_zero, List.append_nil] at this; exact this)
            have HV2 := Aside0.mk (show mvOkD (M.take (q + 1)) = true by have h := HA.out; rw [List.take_length] at h; rw [HTV.out, HV.out, h]; rfl)
            have HMO := Aside0.mk ((HO.out).mono)
            have HOWN := Aside0.mk (show ∀ k, vm.ownBlock = some k → k < g from fun k hk => ((HO.out).rm.1 k hk).2)
            have kb2 : wr.cell? ⟨b5, 2, none⟩ = some vm := (blk_cell (HO.out).bx 2).trans rfl
            have HML := Aside0.mk (show ((M.take q).map rowD).length ≤ 6 by rw [List.length_map, List.length_take]; have := HNM.out; omega)
            have HL7 := Aside0.mk (show ((M.take q).map rowD ++ [rowD row]).length = q + 1 by rw [List.length_append, List.length_map, List.length_take, List.length_singleton]; have := HLT.out; omega)
            have HLR := Aside0.mk (show (rowD row).length = row.length by unfold rowD; rw [List.length_map])
            clear hf hgg hlt HW HA HO
            go_wp2_with ((with_reducible refine gate_builtin (b := .append) (xs := #[.tmp 56, .tmp 58]) rfl ?_); at_builtin; refine Kd.R_append kA3 (w0 := w) w.heap.size rfl (.tmp 56) (.tmp 58) 23 65 (.slice none 0 0) 24 rfl Tryz.underlying23 Q.info65 rfl (show 0 < 1 by decide) (by decide) vm ((M.take q).map rowD) (rowD row) [.slice (some ⟨g, 0, none⟩) row.length row.length] (fun k => b5 < k) (fun k => g ≤ k) rfl rfl ⟨_, rfl, HWF.out⟩ (fun k hk => ⟨by have h1 := HGB.out; have h3 : g ≤ k := hk; show b5 < k; omega, fun e => by have h1 := HOWN.out k e.symm; have h3 : g ≤ k := hk; omega⟩) (fun k hk => by have h1 := blk_lt (HMO.out).bx; have h3 : wr.heap.size ≤ k := hk; show b5 < k; omega) (HMO.out).rm (HMO.out).dw.hb (HMO.out).dw.hb.size (by have := HML.out; omega) ?_; intro v7 w7 ho7 hb7 hg7 hat7; have HO7 := Aside0.mk ((HMO.out).put (rowD row) ho7 hb7 hg7); rw [← HTK.out] at HO7; have HBK := Aside0.mk (blk_grown (HMO.out).bx hg7 (fun e => by have := (HMO.out).rm.1 _ e.symm; omega)); have k7 : w7.cell? ⟨b5, 2, none⟩ = some vm := (blk_cell HBK.out 2).trans rfl; have f7 := blk_frozen HBK.out 2; (obtain ⟨A7, c7, e7⟩ := Kd.R_slice ho7); rw [HL7.out] at e7; subst e7; clear ho7 hb7 hg7 hat7)
            go_roundg (M.length - (q + 1))
            case measure => have := HLT.out; omega
            case rel => exact ⟨q + 1, _, HLT.out, Nat.le_refl _, by rw [HKQ.out], HO7, HV2⟩
      · obtain rfl : q = M.length := by omega
        rw [List.take_length] at HO HV
        have HP := Aside0.mk (show dualR rk st M = (0, rk, st, M.map rowD) by rw [HPR.out, if_pos HV.out])
        obtain ⟨A7, c7, e7⟩ := Kd.R_slice (HO.out).rm
        rw [List.length_map] at e7
        subst e7
        have kb0 : wr.cell? ⟨b5, 0, none⟩ = some (.slice A9 rk.length c9) := (blk_cell (HO.out).bx 0).trans rfl
        have kb1 : wr.cell? ⟨b5, 1, none⟩ = some (.int .i64 st) := (blk_cell (HO.out).bx 1).trans rfl
        have kb2 : wr.cell? ⟨b5, 2, none⟩ = some (.slice A7 M.length c7) := (blk_cell (HO.out).bx 2).trans rfl
        obtain ⟨⟨k0, k1, k2⟩, f0, f1, f2⟩ := (HO.out).dw.rcells
        have HD3 := Aside0.mk ((HO.out).dw.put (.slice A9 rk.length c9) (.int .i64 st) (.slice A7 M.length c7))
        have HRR := Aside0.mk (Kd.R_mono (R_same (w1 := put3 wr (w.heap.size + 1) (.slice A9 rk.length c9) (.int .i64 st) (.slice A7 M.length c7)) (HO.out).rr (fun k hk _ => put3_heap _ _ _ _ _ k (by omega))) (ok' := fun k => w.heap.size ≤ k) (fun k hk => by omega))
        have HRM := Aside0.mk (Kd.R_mono (R_same (w1 := put3 wr (w.heap.size + 1) (.slice A9 rk.length c9) (.int .i64 st) (.slice A7 M.length c7)) (HO.out).rm (fun k hk _ => put3_heap _ _ _ _ _ k (by have h1 : b5 < k := hk; have := (HO.out).hbl; omega))) (ok' := fun k => w.heap.size ≤ k) (fun k hk => by have h1 : b5 < k := hk; have := (HO.out).hbl; omega))
        unfold put3 at HD3 HRR HRM
        clear HO HV hq hgg hlt
        go_wp2
        refine bodyPost_ret (results_row_tmp rfl _ _ (w.heap.size + 1) 25 #[.slice A9 rk.length c9, .int .i64 st, .slice A7 M.length c7] (0, 0) _ rfl (HD3.out).h2 Tryz.underlying25 rfl (by kernel_rfl)) rfl ?_
        rw [HP.out]
        exact ⟨_, _, rfl, HRR.out, HRM.out, (HD3.out).hb⟩
end Go.Proofs.YtbmcigakiibncaaGreatDoor.H
namespace Go.Proofs.YtbmcigakiibncaaGreatDoor.H
open Go.RowKit Go.Proofs.YtbmcigakiibncaaGreatDoorW.PrintWords Go.Proofs.YtbmcigakiibncaaGreatDoorW.PrintLast Go.Proofs.YtbmcigakiibncaaGreatDoorW.PrintMore
set_option linter.unusedVariables false
set_option linter.unusedSimpArgs false
def loopsOf : Code → List Code
  | .loop c => c :: loopsOf c
  | .seq a b => loopsOf a ++ loopsOf b
  | .block _ c => loopsOf c
  | .scope c => loopsOf c
  | .cond _ a b => loopsOf a ++ loopsOf b
  | _ => []
noncomputable def body26 : Code := ((Tryz.f26.body.map loopsOf).getD []).getD 2 .skip
theorem cutL_calls (l : List UInt8) (X : ByteArray) (c : UInt8) (W : World) (h : X.data.toList = l) (hs : X.size ≤ 70000) (hm : MX W) :
    Calls Tryz.prog 62 #[.string X, .string ⟨#[c]⟩] W fun e w' => e = .returned (.tuple #[.string ⟨(Lib.cut l [c]).1.toArray⟩, .string ⟨(Lib.cut l [c]).2.1.toArray⟩, .bool (Lib.cut l [c]).2.2]) ∧ Below W.heap.size W w' := by
  obtain ⟨m, hm⟩ := hm
  refine (Tryz.strings_Cut X ⟨#[c]⟩ m W (by omega) hm).mono ?_
  rintro e w' ⟨rfl, n, rfl⟩
  rw [h]
  exact ⟨rfl, pw_below_drewN (Below.refl _ _) n⟩
theorem gstep_bad {states : Int} {m : Nat} {s : ByteArray} {r : List ByteArray} {last : Int} {M : Mv} (h : (lnGo s && lnOk states m last s) = false) : gstep states m (s :: r) last M = none := by
  rw [gstep, h]; rfl
theorem gstep_alt {states : Int} {m : Nat} {s : ByteArray} {r : List ByteArray} {last : Int} {M : Mv} (hz : lnZ s = none) : gstep states m (s :: r) last M = none := by
  rw [gstep, hz]
  split <;> rfl
theorem gstep_go {states : Int} {m : Nat} {s : ByteArray} {r : List ByteArray} {last : Int} {M : Mv} {z : List Nd} (h : (lnGo s && lnOk states m last s) = true) (hz : lnZ s = some z) :
    gstep states m (s :: r) last M = gstep states m r (lnQ s * m + lnF s) (if lnQ s < M.length then addAlt M (lnQ s).toNat (lnF s).toNat z else M) := by
  rw [gstep, h, hz]; rfl
theorem num0_range {l : List UInt8} (h : numOk l = true) : 0 ≤ num0V l ∧ num0V l ≤ 1000000000 := num_nonneg (s := ⟨l.toArray⟩) h
theorem addAlt_cnt {M : Mv} {q f k : Nat} {z : List Nd} (hq : q < M.length) (hf : f < (M.getD q []).length) (h : ∀ a b, ((M.getD a []).getD b []).length ≤ k) : ∀ a b, (((addAlt M q f z).getD a []).getD b []).length ≤ k + 1 := by
  intro a b
  rw [addAlt_row hq]
  by_cases e : a = q
  · rw [if_pos e, setD hf]
    split
    · have := h q f
      rw [List.length_append, List.length_singleton]; omega
    · have := h q b; omega
  · rw [if_neg e]; have := h a b; omega
theorem size_toArray (l : List UInt8) : (⟨l.toArray⟩ : ByteArray).size = l.length := List.size_toArray
theorem mul_bound {q : Int} {m : Nat} (h0 : 0 ≤ q) (h1 : q ≤ 1000000000) (hm : m ≤ 65536) : 0 ≤ q * m ∧ q * m ≤ 65536000000000 := by
  refine ⟨Int.mul_nonneg h0 (by omega), ?_⟩
  have h2 : q * m ≤ 1000000000 * m := Int.mul_le_mul_of_nonneg_right h1 (by omega)
  omega
def tabT26 : Bool × List (List Nat × List Nat) := (true, [([], []), ([0], [0]), ([], []), ([1, 2], [1, 2]), ([3], [3]), ([], []), ([], []), ([6], [6]), ([], []), ([7, 8], [7, 8]), ([9], [9]), ([], []), ([10, 11], [10, 11]), ([12], [12]), ([], []), ([14], [14]), ([13, 15], [13, 15]), ([4, 5, 0, 1, 2, 3, 4, 5, 6, 7, 8, 9, 10, 11, 12, 13, 14, 15, 16], [4, 5]), ([17, 16, 16, 0, 1, 2, 3, 4, 5, 6, 7, 8, 9, 10, 11, 12, 13, 14, 15, 16], [16, 17])])
theorem tab26 : rtab .any (opsOf Tryz.f26 35) = tabT26 := by kernel_rfl
theorem bits26 : waitsOk tabT26.2 [0, 1, 0, 7, 15, 0, 0, 64, 0, 448, 960, 0, 4032, 8128, 0, 16384, 65472, 131071, 262143] = true := by kernel_rfl
set_option maxHeartbeats 16000000 in
set_option maxRecDepth 1000000 in
theorem loop26 (t : ByteArray) (w : World) (L wd : List ByteArray) (n N bl cp : Nat) (A : Option Addr) (c : Nat) (A2 : Option Addr) (c2 : Nat) (st states : Int) (K : Act → World → Prop) (wr : World) (M0 : Mv) (gs0 : List Nat) (uu0 : Nat → Nat → Value)
    (u0 u1 u4 u5 u6 u7 u10 u11 u12 u13 u14 u15 u16 u17 u18 u19 u20 u21 u22 u23 u24 u25 u26 u27 u28 u29 u30 u31 u32 u33 u34 u35 u36 u37 u38 u39 u40 u41 u42 u43 u44 u45 u46 u47 u48 u49 u50 u51 u52 u53 u54 u55 u56 u57 u58 u59 u60 u61 u62 u63 u64 u65 u66 u67 u68 u69 u70 u71 u72 u73 u74 u75 u76 u77 u78 u79 u80 u81 u82 u83 u84 u85 u86 u87 u88 u89 u90 u91 u92 u93 u94 u95 u96 u97 u98 u99 u100 u104 u105 u106 u107 u108 u109 u110 u111 u112 u113 u114 u115 u116 u117 u118 u119 u120 u121 u122 u123 u124 u125 u126 u127 u128 u129 u130 u131 u132 u133 u134 u135 u136 u137 u138 u139 u140 u141 u142 u143 u144 u145 u146 u147 u148 u149 u150 u151 u152 u153 u154 u155 u156 u157 u158 u159 u160 u161 u162 u163 u164 u165 u166 u167 u168 u169 u170 u171 u172 u173 u174 u175 u176 u177 u178 u179 u180 u181 u182 u183 u184 u185 u186 u187 u188 u189 u190 u191 : Value)
    (HSZ : Aside0 (t.size ≤ 65536)) (HM : Aside0 (MX w)) (HCS : Aside0 (∀ i, (L.getD i ByteArray.empty).size ≤ t.size)) (HWL : Aside0 (wd.length ≤ 65536)) (HNL : Aside0 (L.length = n + 3)) (HLN : Aside0 (n ≤ 65536)) (HN7 : Aside0 (N ≤ 7 ∧ N = (min states 7).toNat)) (HST : Aside0 (0 ≤ states ∧ states ≤ 1000000000)) (HML : Aside0 (M0.length = N)) (HCN : Aside0 (∀ a b, ((M0.getD a []).getD b []).length ≤ 0))
    (HG : Aside0 (GL w wr (.slice A wd.length c) (.int .i64 st) (.slice A2 N c2) bl L)) (HR : Aside0 (Kd.R (Kd.int .i64) 3 wr w.heap.size (fun k => w.heap.size + 2 ≤ k) (.slice A wd.length c) (wd.map valW))) (HMM : Aside0 (MM w.heap.size (w.heap.size + 2) wr (.slice A2 N c2) M0 wd.length gs0 uu0))
    (HV : Aside0 (getV t = (gstep states wd.length ((L.drop 2).take n) (-1) M0).map fun M => (wd.map valW, st, M)))
    (hK : Aside0 (∀ (u9 u11 u12 u13 u14 u15 u16 u17 u18 u19 u20 u103 u104 u105 u106 u107 u108 u109 u110 u111 u112 u113 u114 u115 u116 u117 u118 u119 u120 u121 u122 u123 u124 u125 u126 u127 u128 u129 u130 u131 u132 u133 u134 u135 u136 u137 u138 u139 u140 u141 u142 u143 u144 u145 u146 u147 u148 u149 u150 u151 u152 u153 u154 u155 u156 u157 u158 u159 u160 u161 u162 u163 u164 u165 u166 u167 u168 u169 u170 u171 u172 u173 u174 u175 u176 u177 u178 u179 u180 u181 u182 u183 u184 u185 u186 : Value) (W : World) (M : Mv) (gs : List Nat) (uu : Nat → Nat → Value), GL w W (.slice A wd.length c) (.int .i64 st) (.slice A2 N c2) bl L → Kd.R (Kd.int .i64) 3 W w.heap.size (fun k => w.heap.size + 2 ≤ k) (.slice A wd.length c) (wd.map valW) → MM w.heap.size (w.heap.size + 2) W (.slice A2 N c2) M wd.length gs uu → M.length = N → getV t = some (wd.map valW, st, M) →
      K { tmps := List.toArray (u0 :: u1 :: (.pointer (some ⟨w.heap.size, 0, none⟩)) :: (.pointer (some ⟨w.heap.size + 1, 0, none⟩)) :: u4 :: u5 :: u6 :: u7 :: (.int .i64 states) :: u9 :: u10 :: u11 :: u12 :: u13 :: u14 :: u15 :: u16 :: u17 :: u18 :: u19 :: u20 :: u21 :: u22 :: u23 :: u24 :: u25 :: u26 :: u27 :: u28 :: u29 :: u30 :: u31 :: u32 :: u33 :: u34 :: u35 :: u36 :: u37 :: u38 :: u39 :: u40 :: u41 :: u42 :: u43 :: u44 :: u45 :: u46 :: u47 :: u48 :: u49 :: u50 :: u51 :: u52 :: u53 :: u54 :: u55 :: u56 :: u57 :: u58 :: u59 :: u60 :: u61 :: u62 :: u63 :: u64 :: u65 :: u66 :: u67 :: u68 :: u69 :: u70 :: u71 :: u72 :: u73 :: u74 :: u75 :: u76 :: u77 :: u78 :: u79 :: u80 :: u81 :: u82 :: u83 :: u84 :: u85 :: u86 :: u87 :: u88 :: u89 :: u90 :: u91 :: u92 :: u93 :: u94 :: u95 :: u96 :: u97 :: u98 :: u99 :: u100 :: (.slice (some ⟨bl, 2, none⟩) n cp) :: (.int .i64 (n : Int)) :: u103 :: u104 :: u105 :: u106 :: u107 :: u108 :: u109 :: u110 :: u111 :: u112 :: u113 :: u114 :: u115 :: u116 :: u117 :: u118 :: u119 :: u120 :: u121 :: u122 :: u123 :: u124 :: u125 :: u126 :: u127 :: u128 :: u129 :: u130 :: u131 :: u132 :: u133 :: u134 :: u135 :: u136 :: u137 :: u138 :: u139 :: u140 :: u141 :: u142 :: u143 :: u144 :: u145 :: u146 :: u147 :: u148 :: u149 :: u150 :: u151 :: u152 :: u153 :: u154 :: u155 :: u156 :: u157 :: u158 :: u159 :: u160 :: u161 :: u162 :: u163 :: u164 :: u165 :: u166 :: u167 :: u168 :: u169 :: u170 :: u171 :: u172 :: u173 :: u174 :: u175 :: u176 :: u177 :: u178 :: u179 :: u180 :: u181 :: u182 :: u183 :: u184 :: u185 :: u186 :: u187 :: u188 :: u189 :: u190 :: u191 :: []), defers := [{ target := .fn (.func 58) #[.pointer (some ⟨w.heap.size, 0, none⟩), .pointer (some ⟨w.heap.size + 1, 0, none⟩)], args := #[] }] } W)) :
    Code.wp Tryz.prog (Code.loop body26) (Exit.inBlock 4 (Exit.then K (bodyPostD Tryz.prog Tryz.f26 (GetE t w)))) { tmps := List.toArray (u0 :: u1 :: (.pointer (some ⟨w.heap.size, 0, none⟩)) :: (.pointer (some ⟨w.heap.size + 1, 0, none⟩)) :: u4 :: u5 :: u6 :: u7 :: (.int .i64 states) :: (.int .i64 (-1)) :: u10 :: u11 :: u12 :: u13 :: u14 :: u15 :: u16 :: u17 :: u18 :: u19 :: u20 :: u21 :: u22 :: u23 :: u24 :: u25 :: u26 :: u27 :: u28 :: u29 :: u30 :: u31 :: u32 :: u33 :: u34 :: u35 :: u36 :: u37 :: u38 :: u39 :: u40 :: u41 :: u42 :: u43 :: u44 :: u45 :: u46 :: u47 :: u48 :: u49 :: u50 :: u51 :: u52 :: u53 :: u54 :: u55 :: u56 :: u57 :: u58 :: u59 :: u60 :: u61 :: u62 :: u63 :: u64 :: u65 :: u66 :: u67 :: u68 :: u69 :: u70 :: u71 :: u72 :: u73 :: u74 :: u75 :: u76 :: u77 :: u78 :: u79 :: u80 :: u81 :: u82 :: u83 :: u84 :: u85 :: u86 :: u87 :: u88 :: u89 :: u90 :: u91 :: u92 :: u93 :: u94 :: u95 :: u96 :: u97 :: u98 :: u99 :: u100 :: (.slice (some ⟨bl, 2, none⟩) n cp) :: (.int .i64 (n : Int)) :: (.int .i64 0) :: u104 :: u105 :: u106 :: u107 :: u108 :: u109 :: u110 :: u111 :: u112 :: u113 :: u114 :: u115 :: u116 :: u117 :: u118 :: u119 :: u120 :: u121 :: u122 :: u123 :: u124 :: u125 :: u126 :: u127 :: u128 :: u129 :: u130 :: u131 :: u132 :: u133 :: u134 :: u135 :: u136 :: u137 :: u138 :: u139 :: u140 :: u141 :: u142 :: u143 :: u144 :: u145 :: u146 :: u147 :: u148 :: u149 :: u150 :: u151 :: u152 :: u153 :: u154 :: u155 :: u156 :: u157 :: u158 :: u159 :: u160 :: u161 :: u162 :: u163 :: u164 :: u165 :: u166 :: u167 :: u168 :: u169 :: u170 :: u171 :: u172 :: u173 :: u174 :: u175 :: u176 :: u177 :: u178 :: u179 :: u180 :: u181 :: u182 :: u183 :: u184 :: u185 :: u186 :: u187 :: u188 :: u189 :: u190 :: u191 :: []), defers := [{ target := .fn (.func 58) #[.pointer (some ⟨w.heap.size, 0, none⟩), .pointer (some ⟨w.heap.size + 1, 0, none⟩)], args := #[] }] } wr := by
  conv => arg 2; arg 1; whnf
  go_loopg [103, 9] n (fun gg v103 v9 wi => ∃ (k : Nat) (last : Int) (M : Mv) (gs : List Nat) (uu : Nat → Nat → Value), k ≤ n ∧ n - k ≤ gg ∧ v103 = .int .i64 k ∧ v9 = .int .i64 last ∧ Aside0 (GL w wi (.slice A wd.length c) (.int .i64 st) (.slice A2 N c2) bl L) ∧ Aside0 (Kd.R (Kd.int .i64) 3 wi w.heap.size (fun k => w.heap.size + 2 ≤ k) (.slice A wd.length c) (wd.map valW)) ∧ Aside0 (MM w.heap.size (w.heap.size + 2) wi (.slice A2 N c2) M wd.length gs uu) ∧ Aside0 (M.length = N) ∧ Aside0 (getV t = (gstep states wd.length (((L.drop 2).take n).drop k) last M).map fun M => (wd.map valW, st, M)) ∧ Aside0 (-1 ≤ last ∧ last ≤ 70000000000000) ∧ Aside0 (∀ a b, ((M.getD a []).getD b []).length ≤ k))
  case atStart => exact ⟨0, -1, M0, gs0, uu0, Nat.zero_le _, Nat.le_refl _, rfl, rfl, HG, HR, HMM, HML, HV, ⟨by omega⟩, HCN⟩
  case round =>
    clear HG HR HMM HML HV HCN
    obtain ⟨k, last, M, gs, uu, hk, hgg, rfl, rfl, HG, HR, HMM, HML, HV, HLA, HCN⟩ := hrel
    by_cases hlt : k < n
    · have hltz : (k : Int) < (n : Int) := by omega
      have HLT := Aside0.mk hlt
      have hk := strs_cell (HG.out).l (show 2 + k < L.length by rw [HNL.out]; omega)
      have HS1Z := Aside0.mk (HCS.out (2 + k))
      have HDR := Aside0.mk (show ((L.drop 2).take n).drop k = L.getD (2 + k) ByteArray.empty :: ((L.drop 2).take n).drop (k + 1) from by
        have hl : k < ((L.drop 2).take n).length := by rw [List.length_take, List.length_drop, HNL.out]; omega
        rw [List.drop_eq_getElem_cons hl]
        congr 1
        have h2 : 2 + k < L.length := by rw [HNL.out]; omega
        simp [List.getD_eq_getElem?_getD, h2])
      generalize L.getD (2 + k) ByteArray.empty = s at *
      have HBAD := Aside0.mk (fun (h : (lnGo s && lnOk states wd.length last s) = false) => (show getV t = none by rw [HV.out, HDR.out, gstep_bad h]; rfl))
      have HBZ := Aside0.mk (fun (h : lnZ s = none) => (show getV t = none by rw [HV.out, HDR.out, gstep_alt h]; rfl))
      have HSL := Aside0.mk (show s.data.toList.length ≤ 65536 from by rw [← Lib.size_eq]; have := HS1Z.out; have := HSZ.out; omega)
      have HC1 := Aside0.mk (cutL_calls s.data.toList s 58 wr rfl (by rw [Lib.size_eq]; have := HSL.out; omega) ((HM.out).below (HG.out).g.hb))
      have HAT := Aside0.mk (show lnAt s = Lib.cut s.data.toList [58] from rfl)
      have HATZ := Aside0.mk (cut_size s.data.toList [58])
      generalize Lib.cut s.data.toList [58] = p1 at HC1 HAT HATZ
      obtain ⟨a1, r1, o1⟩ := p1
      have HA1Z := Aside0.mk (show a1.length ≤ 65536 from Nat.le_trans (HATZ.out).1 HSL.out)
      have HR1Z := Aside0.mk (show r1.length ≤ 65536 from Nat.le_trans (HATZ.out).2 HSL.out)
      clear HATZ
      go_wp2_with fail
      refine (HC1.out).mono ?_
      rintro E w4 ⟨rfl, hb⟩
      have HG4 := Aside0.mk ((HG.out).below hb)
      have HR4 := Aside0.mk (Kd.R_below HR.out hb)
      have HM4 := Aside0.mk ((HMM.out).below hb)
      clear hb HG HR HMM hk HC1
      have HC2 := Aside0.mk (cutL_calls a1 ⟨a1.toArray⟩ 32 w4 rfl (by rw [size_toArray]; have := HA1Z.out; omega) ((HM.out).below (HG4.out).g.hb))
      have HXY := Aside0.mk (show lnXY s = Lib.cut a1 [32] by unfold lnXY; rw [HAT.out])
      have HXYZ := Aside0.mk (cut_size a1 [32])
      generalize Lib.cut a1 [32] = p2 at HC2 HXY HXYZ
      obtain ⟨a2, r2, o2⟩ := p2
      have HA2Z := Aside0.mk (show a2.length ≤ 65536 from Nat.le_trans (HXYZ.out).1 HA1Z.out)
      have HR2Z := Aside0.mk (show r2.length ≤ 65536 from Nat.le_trans (HXYZ.out).2 HA1Z.out)
      clear HXYZ
      go_wp2_with fail
      refine (HC2.out).mono ?_
      rintro E w5 ⟨rfl, hb⟩
      have HG5 := Aside0.mk ((HG4.out).below hb)
      have HR5 := Aside0.mk (Kd.R_below HR4.out hb)
      have HM5 := Aside0.mk ((HM4.out).below hb)
      clear hb HG4 HR4 HM4 HC2
      cases o1 with
      | false =>
        have HN := Aside0.mk (HBAD.out (by unfold lnGo; rw [HAT.out]; rfl))
        go_wp2
        exact get_panic (getR_bad HSZ.out HN.out) (HG5.out).g _ rfl rfl
      | true =>
      cases o2 with
      | false =>
        have HN := Aside0.mk (HBAD.out (by unfold lnGo; rw [HXY.out, HAT.out]; rfl))
        go_wp2
        exact get_panic (getR_bad HSZ.out HN.out) (HG5.out).g _ rfl rfl
      | true =>
      have HN1 := Aside0.mk (show Calls Tryz.prog 61 #[.string ⟨a2.toArray⟩] w5 fun E w' => E = numE a2 ∧ Below w5.heap.size w5 w' from number_calls ⟨a2.toArray⟩ w5 (by rw [size_toArray]; have := HA2Z.out; omega))
      go_wp2_with fail
      refine (HN1.out).mono ?_
      rintro E w6 ⟨rfl, hb⟩
      have HG6 := Aside0.mk ((HG5.out).below hb)
      have HR6 := Aside0.mk (Kd.R_below HR5.out hb)
      have HM6 := Aside0.mk ((HM5.out).below hb)
      clear hb HG5 HR5 HM5 HN1
      cases q1 : numOk a2 with
      | false =>
        have HN := Aside0.mk (HBAD.out (by unfold lnGo; rw [HXY.out, HAT.out, q1]; rfl))
        rw [show numE a2 = pbad by unfold numE; rw [q1]; rfl]
        unfold pbad
        clear q1
        go_wp2
        exact get_panic (getR_bad HSZ.out HN.out) (HG6.out).g _ rfl rfl
      | true =>
      rw [show numE a2 = .returned (.int .i64 (num0V a2)) by unfold numE; rw [q1]; rfl]
      have HN2 := Aside0.mk (show Calls Tryz.prog 61 #[.string ⟨r2.toArray⟩] w6 fun E w' => E = numE r2 ∧ Below w6.heap.size w6 w' from number_calls ⟨r2.toArray⟩ w6 (by rw [size_toArray]; have := HR2Z.out; omega))
      have HQ1 := Aside0.mk q1
      clear q1
      go_wp2_with fail
      refine (HN2.out).mono ?_
      rintro E w7 ⟨rfl, hb⟩
      have HG7 := Aside0.mk ((HG6.out).below hb)
      have HR7 := Aside0.mk (Kd.R_below HR6.out hb)
      have HM7 := Aside0.mk ((HM6.out).below hb)
      clear hb HG6 HR6 HM6 HN2
      cases q2 : numOk r2 with
      | false =>
        have HN := Aside0.mk (HBAD.out (by unfold lnGo; rw [HXY.out, HAT.out, q2, HQ1.out]; rfl))
        rw [show numE r2 = pbad by unfold numE; rw [q2]; rfl]
        unfold pbad
        clear q2
        go_wp2
        exact get_panic (getR_bad HSZ.out HN.out) (HG7.out).g _ rfl rfl
      | true =>
      rw [show numE r2 = .returned (.int .i64 (num0V r2)) by unfold numE; rw [q2]; rfl]
      have HGO := Aside0.mk (show lnGo s = true by unfold lnGo; rw [HXY.out, HAT.out, q2, HQ1.out]; rfl)
      obtain ⟨qa, qb⟩ := num0_range HQ1.out
      obtain ⟨fa, fb⟩ := num0_range q2
      have HLQ := Aside0.mk (show lnQ s = num0V a2 by unfold lnQ; rw [HXY.out])
      have HLF := Aside0.mk (show lnF s = num0V r2 by unfold lnF; rw [HXY.out])
      clear q2 HQ1
      generalize num0V a2 = q at *
      generalize num0V r2 = f at *
      obtain ⟨ma, mb⟩ := mul_bound (m := wd.length) qa qb HWL.out
      obtain ⟨k0, k1, k2, k3⟩ := (HG7.out).g.cells
      obtain ⟨qm, hqm⟩ : ∃ x, q * (wd.length : Int) = x := ⟨_, rfl⟩
      rw [hqm] at ma mb
      have hm1 : wrap64 (q * (wd.length : Int)) = qm := by rw [hqm]; exact wr_id (by omega) (by omega)
      have HOKD := Aside0.mk (show lnOk states wd.length last s = !(decide (q ≥ states) || decide (f ≥ (wd.length : Int)) || decide (qm + f < last)) by unfold lnOk; rw [HLQ.out, HLF.out, hqm])
      have HQM := Aside0.mk (show lnQ s * (wd.length : Int) + lnF s = qm + f by rw [HLQ.out, HLF.out, hqm])
      clear hqm
      have hm2 : wrap64 (qm + f) = qm + f := wr_id (by omega) (by omega)
      have HBO := Aside0.mk (fun (h : (decide (q ≥ states) || decide (f ≥ (wd.length : Int)) || decide (qm + f < last)) = true) => HBAD.out (by rw [HOKD.out, h]; simp))
      cases t1 : decide (q ≥ states) with
      | true =>
        have HN := Aside0.mk (HBO.out (by rw [t1]; rfl))
        go_wp2
        exact get_panic (getR_bad HSZ.out HN.out) (HG7.out).g _ rfl rfl
      | false =>
      cases t2 : decide (f ≥ (wd.length : Int)) with
      | true =>
        have HN := Aside0.mk (HBO.out (by rw [t1, t2]; rfl))
        go_wp2
        exact get_panic (getR_bad HSZ.out HN.out) (HG7.out).g _ rfl rfl
      | false =>
      cases t3 : decide (qm + f < last) with
      | true =>
        have HN := Aside0.mk (HBO.out (by rw [t1, t2, t3]; rfl))
        go_wp2
        exact get_panic (getR_bad HSZ.out HN.out) (HG7.out).g _ rfl rfl
      | false =>
      have HOK := Aside0.mk (show (lnGo s && lnOk states wd.length last s) = true by rw [HGO.out, HOKD.out, t1, t2, t3]; rfl)
      have HAL := Aside0.mk (alternative_calls ⟨r1.toArray⟩ w7 (by rw [size_toArray]; have := HR1Z.out; omega) ((HM.out).below (HG7.out).g.hb))
      go_wp2_with fail
      have HFM := Aside0.mk (show f < (wd.length : Int) from by have := of_decide_eq_false t2; omega)
      clear t1 t2 t3
      refine (HAL.out).mono ?_
      rintro E w8 ⟨hb, ⟨hno, rfl⟩ | ⟨ys, v, hys, rfl, hRz⟩⟩
      · have HN := Aside0.mk (HBZ.out (show lnZ s = none by unfold lnZ; rw [HAT.out]; exact hno))
        have HG8 := Aside0.mk ((HG7.out).below hb)
        unfold pbad
        go_wp2
        exact get_panic (getR_bad HSZ.out HN.out) (HG8.out).g _ rfl rfl
      have HZ := Aside0.mk (show lnZ s = some ys by unfold lnZ; rw [HAT.out]; exact hys)
      have HG8 := Aside0.mk ((HG7.out).below hb)
      have HR8 := Aside0.mk (Kd.R_below HR7.out hb)
      have HM8 := Aside0.mk ((HM7.out).below hb)
      have H78 := Aside0.mk (show w.heap.size + 2 ≤ w7.heap.size ∧ w7.heap.size ≤ w8.heap.size from ⟨by have := blk_lt (HG7.out).l; have := (HG7.out).hbl; omega, hb.size⟩)
      have HRZ := Aside0.mk (Kd.R_lower hRz (show w.heap.size ≤ w7.heap.size by have := blk_lt (HG7.out).l; have := (HG7.out).hbl; omega))
      have HOLD := Aside0.mk (fun (a b : Nat) (ha : a < M.length) (hb' : b < wd.length) (kk : Nat) (hkk : (uu a b).ownBlock = some kk) => (ownBlock_typed ((HM7.out).alts a b ha hb') hkk).2)
      have HSTEP := Aside0.mk (show getV t = (gstep states wd.length (((L.drop 2).take n).drop (k + 1)) (qm + f) (if q < (M.length : Int) then addAlt M q.toNat f.toNat ys else M)).map fun M => (wd.map valW, st, M) by rw [HV.out, HDR.out, gstep_go HOK.out HZ.out, HQM.out, HLQ.out, HLF.out])
      have HKZ := Aside0.mk (show wrap64 ((k : Int) + 1) = ((k + 1 : Nat) : Int) by rw [wr_id (by omega) (by have := HLN.out; omega)]; rfl)
      obtain ⟨A3, c3, rfl⟩ := Kd.R_slice hRz
      clear hb hys hRz HG7 HR7 HM7 HAL HV HBAD HBZ HBO HOKD HOK HQM HLQ HLF HGO HZ HXY HAT HDR k0 k1 k2 k3
      obtain ⟨qn, rfl⟩ := Int.eq_ofNat_of_zero_le qa
      obtain ⟨fn, rfl⟩ := Int.eq_ofNat_of_zero_le fa
      have hfm : fn < wd.length := by have := HFM.out; omega
      obtain ⟨k0, k1, k2, k3⟩ := (HG8.out).g.cells
      have HLA2 := Aside0.mk (show -1 ≤ qm + (fn : Int) ∧ qm + (fn : Int) ≤ 70000000000000 from by omega)
      by_cases hqN : qn < N
      · have hqM : qn < M.length := by rw [HML.out]; exact hqN
        have HSTEP2 := Aside0.mk (show getV t = (gstep states wd.length (((L.drop 2).take n).drop (k + 1)) (qm + fn) (addAlt M qn fn ys)).map fun M => (wd.map valW, st, M) by rw [HSTEP.out, if_pos (by omega)]; rfl)
        obtain ⟨ab, cap, e1, r0, c0, f0, ⟨abc, hab⟩, ⟨gbc, hgb⟩, hgB⟩ := (HM8.out).at hqM hfm
        injection e1 with e1 e2 e3
        subst e1 e3
        have HAB := Aside0.mk hab
        have HGB := Aside0.mk hgb
        have HGBB := Aside0.mk hgB
        have HQM2 := Aside0.mk (And.intro hqM hfm)
        have HUB := Aside0.mk (HOLD.out qn fn hqM hfm)
        have HLM := Aside0.mk (show ((M.getD qn []).getD fn []).length ≤ 65536 from by have := HCN.out qn fn; have := HLN.out; omega)
        have HCN2 := Aside0.mk (addAlt_cnt (z := ys) hqM (by rw [((HM8.out).rows qn hqM).2.2]; exact hfm) HCN.out)
        obtain ⟨A4, c4, e4⟩ := Kd.R_slice ((HM8.out).alts qn fn hqM hfm)
        rw [e4] at c0
        have HE4 := Aside0.mk e4
        have hqNz : (qn : Int) < (N : Int) := by omega
        clear hab hgb hgB hqM e2 e4 HOLD HCN
        have hbD := below_drew (Below.refl w8.heap.size w8)
        have HGA := Aside0.mk ((HG8.out).below hbD)
        have HRA := Aside0.mk (Kd.R_below HR8.out hbD)
        have HMA := Aside0.mk ((HM8.out).below hbD)
        have HRZA := Aside0.mk (Kd.R_below HRZ.out hbD)
        have HALT := Aside0.mk (show kA1.R 69 w8.drew w.heap.size (fun k => w.heap.size + 2 ≤ k) (.slice A4 ((M.getD qn []).getD fn []).length c4) ((M.getD qn []).getD fn []) from by rw [← HE4.out]; exact (HMA.out).alts qn fn (HQM2.out).1 (HQM2.out).2)
        have HUB2 := Aside0.mk (show ∀ kk, (Value.slice A4 ((M.getD qn []).getD fn []).length c4).ownBlock = some kk → kk < w7.heap.size from by rw [← HE4.out]; exact HUB.out)
        have HABD := Aside0.mk (blk_below HAB.out hbD)
        have HGBD := Aside0.mk (blk_below HGB.out hbD)
        have HRD := Aside0.mk (pw_cell_below hbD r0)
        have HCD := Aside0.mk (pw_cell_below hbD c0)
        have HBLG := Aside0.mk (types_ne (HGA.out).l HGBD.out (by decide))
        have HMAdd := Aside0.mk (fun v5 w5 h1 h2 h3 => (HMA.out).add (W1 := w5) (HQM2.out).1 (HQM2.out).2 ys v5 h1 h2 h3)
        rw [HE4.out] at HMAdd
        have HLEN := Aside0.mk (show ((M.getD qn []).getD fn []).length + 1 = ((M.getD qn []).getD fn [] ++ [ys]).length from by simp)
        clear hbD HUB HAB HGB
        generalize hgg0 : gs.getD qn 0 = g at *
        clear hgg0
        generalize hll : ((M.getD qn []).getD fn []).length = len at *
        have HLL := Aside0.mk hll
        clear hll
        go_upto_region 35 with (fail)
        refine wp_region_noPanic ?_
        refine start_ (n := 19) (S := fun w' => w'.cell? ⟨w.heap.size, 2, none⟩ = some (.slice (some ⟨ab, 0, none⟩) N c2) ∧ w'.cell? ⟨ab, qn, none⟩ = some (.slice (some ⟨g, 0, none⟩) wd.length wd.length) ∧ w'.cell? ⟨g, fn, none⟩ = some (.slice A4 len c4)) (ds := [18]) #[false, false, false, false, false, false, false, false, false, false, false, false, false, false, false, false, false, false, false] (by kernel_rfl) rfl rfl ⟨pw_cell_below (below_drew (Below.refl _ _)) k2, HRD.out, HCD.out⟩ (fun hHeld => ?_)
        refine with_tabW tab26 bits26 (fun HT_ HW_ => ?_)
        clear k0 k1 k2 k3 r0 c0 f0
        refine take_ (i := 0) (N := some 168) (v := ?_) (a' := ?_) #[true, false, false, false, false, false, false, false, false, false, false, false, false, false, false, false, false, false, false] rfl rfl (take_ofW HT_.out HW_.out (by kernel_rfl)) (fun _ _ _ h => h) (Or.inl ⟨by rfl, ?_⟩) hHeld ?_ ?_
        rotate_left
        · rintro w' ⟨s0, s1, s2⟩
          go_simp
          with_reducible rfl
        rotate_left
        · simp only [Act.put, List.setIfInBounds_toArray, List.set_cons_zero, List.set_cons_succ]
          rfl
        refine take_ (i := 1) (N := some 169) (v := ?_) (a' := ?_) #[true, true, false, false, false, false, false, false, false, false, false, false, false, false, false, false, false, false, false] rfl rfl (take_ofW HT_.out HW_.out (by kernel_rfl)) (fun _ _ _ h => h) (Or.inl ⟨by rfl, ?_⟩) hHeld ?_ ?_
        rotate_left
        · rintro w' ⟨s0, s1, s2⟩
          go_simp
          with_reducible rfl
        rotate_left
        · simp only [Act.put, List.setIfInBounds_toArray, List.set_cons_zero, List.set_cons_succ]
          rfl
        refine take_ (i := 2) (N := some 170) (v := ?_) (a' := ?_) #[true, true, true, false, false, false, false, false, false, false, false, false, false, false, false, false, false, false, false] rfl rfl (take_ofW HT_.out HW_.out (by kernel_rfl)) (fun _ _ _ h => h) (Or.inl ⟨by rfl, ?_⟩) hHeld ?_ ?_
        rotate_left
        · rintro w' ⟨s0, s1, s2⟩
          go_simp
          with_reducible rfl
        rotate_left
        · simp only [Act.put, List.setIfInBounds_toArray, List.set_cons_zero, List.set_cons_succ]
          rfl
        refine take_ (i := 3) (N := some 171) (v := ?_) (a' := ?_) #[true, true, true, true, false, false, false, false, false, false, false, false, false, false, false, false, false, false, false] rfl rfl (take_ofW HT_.out HW_.out (by kernel_rfl)) (fun _ _ _ h => h) (Or.inl ⟨by rfl, ?_⟩) hHeld ?_ ?_
        rotate_left
        · rintro w' ⟨s0, s1, s2⟩
          go_simp
          with_reducible rfl
        rotate_left
        · simp only [Act.put, List.setIfInBounds_toArray, List.set_cons_zero, List.set_cons_succ]
          rfl
        refine take_ (i := 4) (N := some 172) (v := ?_) (a' := ?_) #[true, true, true, true, true, false, false, false, false, false, false, false, false, false, false, false, false, false, false] rfl rfl (take_ofW HT_.out HW_.out (by kernel_rfl)) (fun _ _ _ h => h) (Or.inl ⟨by rfl, ?_⟩) hHeld ?_ ?_
        rotate_left
        · rintro w' ⟨s0, s1, s2⟩
          go_simp
          with_reducible rfl
        rotate_left
        · simp only [Act.put, List.setIfInBounds_toArray, List.set_cons_zero, List.set_cons_succ]
          rfl
        refine take_ (i := 5) (N := some 173) (v := ?_) (a' := ?_) #[true, true, true, true, true, true, false, false, false, false, false, false, false, false, false, false, false, false, false] rfl rfl (take_ofW HT_.out HW_.out (by kernel_rfl)) (fun _ _ _ h => h) (Or.inl ⟨by rfl, ?_⟩) hHeld ?_ ?_
        rotate_left
        · rintro w' ⟨s0, s1, s2⟩
          go_simp
          with_reducible rfl
        rotate_left
        · simp only [Act.put, List.setIfInBounds_toArray, List.set_cons_zero, List.set_cons_succ]
          rfl
        refine take_ (i := 6) (N := some 174) (v := ?_) (a' := ?_) #[true, true, true, true, true, true, true, false, false, false, false, false, false, false, false, false, false, false, false] rfl rfl (take_ofW HT_.out HW_.out (by kernel_rfl)) (fun _ _ _ h => h) (Or.inl ⟨by rfl, ?_⟩) hHeld ?_ ?_
        rotate_left
        · rintro w' ⟨s0, s1, s2⟩
          go_simp
          with_reducible rfl
        rotate_left
        · simp only [Act.put, List.setIfInBounds_toArray, List.set_cons_zero, List.set_cons_succ]
          rfl
        refine take_ (i := 7) (N := some 175) (v := ?_) (a' := ?_) #[true, true, true, true, true, true, true, true, false, false, false, false, false, false, false, false, false, false, false] rfl rfl (take_ofW HT_.out HW_.out (by kernel_rfl)) (fun _ _ _ h => h) (Or.inl ⟨by rfl, ?_⟩) hHeld ?_ ?_
        rotate_left
        · rintro w' ⟨s0, s1, s2⟩
          go_simp
          with_reducible rfl
        rotate_left
        · simp only [Act.put, List.setIfInBounds_toArray, List.set_cons_zero, List.set_cons_succ]
          rfl
        refine take_ (i := 8) (N := some 176) (v := ?_) (a' := ?_) #[true, true, true, true, true, true, true, true, true, false, false, false, false, false, false, false, false, false, false] rfl rfl (take_ofW HT_.out HW_.out (by kernel_rfl)) (fun _ _ _ h => h) (Or.inl ⟨by rfl, ?_⟩) hHeld ?_ ?_
        rotate_left
        · rintro w' ⟨s0, s1, s2⟩
          go_simp
          with_reducible rfl
        rotate_left
        · simp only [Act.put, List.setIfInBounds_toArray, List.set_cons_zero, List.set_cons_succ]
          rfl
        refine take_ (i := 9) (N := some 177) (v := ?_) (a' := ?_) #[true, true, true, true, true, true, true, true, true, true, false, false, false, false, false, false, false, false, false] rfl rfl (take_ofW HT_.out HW_.out (by kernel_rfl)) (fun _ _ _ h => h) (Or.inl ⟨by rfl, ?_⟩) hHeld ?_ ?_
        rotate_left
        · rintro w' ⟨s0, s1, s2⟩
          go_simp
          with_reducible rfl
        rotate_left
        · simp only [Act.put, List.setIfInBounds_toArray, List.set_cons_zero, List.set_cons_succ]
          rfl
        refine take_ (i := 10) (N := some 178) (v := ?_) (a' := ?_) #[true, true, true, true, true, true, true, true, true, true, true, false, false, false, false, false, false, false, false] rfl rfl (take_ofW HT_.out HW_.out (by kernel_rfl)) (fun _ _ _ h => h) (Or.inl ⟨by rfl, ?_⟩) hHeld ?_ ?_
        rotate_left
        · rintro w' ⟨s0, s1, s2⟩
          go_simp
          with_reducible rfl
        rotate_left
        · simp only [Act.put, List.setIfInBounds_toArray, List.set_cons_zero, List.set_cons_succ]
          rfl
        refine take_ (i := 11) (N := some 179) (v := ?_) (a' := ?_) #[true, true, true, true, true, true, true, true, true, true, true, true, false, false, false, false, false, false, false] rfl rfl (take_ofW HT_.out HW_.out (by kernel_rfl)) (fun _ _ _ h => h) (Or.inl ⟨by rfl, ?_⟩) hHeld ?_ ?_
        rotate_left
        · rintro w' ⟨s0, s1, s2⟩
          go_simp
          with_reducible rfl
        rotate_left
        · simp only [Act.put, List.setIfInBounds_toArray, List.set_cons_zero, List.set_cons_succ]
          rfl
        refine take_ (i := 12) (N := some 180) (v := ?_) (a' := ?_) #[true, true, true, true, true, true, true, true, true, true, true, true, true, false, false, false, false, false, false] rfl rfl (take_ofW HT_.out HW_.out (by kernel_rfl)) (fun _ _ _ h => h) (Or.inl ⟨by rfl, ?_⟩) hHeld ?_ ?_
        rotate_left
        · rintro w' ⟨s0, s1, s2⟩
          go_simp
          with_reducible rfl
        rotate_left
        · simp only [Act.put, List.setIfInBounds_toArray, List.set_cons_zero, List.set_cons_succ]
          rfl
        refine take_ (i := 13) (N := some 181) (v := ?_) (a' := ?_) #[true, true, true, true, true, true, true, true, true, true, true, true, true, true, false, false, false, false, false] rfl rfl (take_ofW HT_.out HW_.out (by kernel_rfl)) (fun _ _ _ h => h) (Or.inl ⟨by rfl, ?_⟩) hHeld ?_ ?_
        rotate_left
        · rintro w' ⟨s0, s1, s2⟩
          go_simp
          with_reducible rfl
        rotate_left
        · simp only [Act.put, List.setIfInBounds_toArray, List.set_cons_zero, List.set_cons_succ]
          rfl
        refine take_ (i := 14) (N := some 182) (v := ?_) (a' := ?_) #[true, true, true, true, true, true, true, true, true, true, true, true, true, true, true, false, false, false, false] rfl rfl (take_ofW HT_.out HW_.out (by kernel_rfl)) (fun _ _ _ h => h) (Or.inl ⟨by rfl, ?_⟩) hHeld ?_ ?_
        rotate_left
        · rintro w' ⟨s0, s1, s2⟩
          go_simp
          with_reducible rfl
        rotate_left
        · simp only [Act.put, List.setIfInBounds_toArray, List.set_cons_zero, List.set_cons_succ]
          rfl
        refine one_ (i := 15) (N := some 183) #[true, true, true, true, true, true, true, true, true, true, true, true, true, true, true, true, false, false, false] rfl rfl (one_of HT_.out (by kernel_rfl)) (by decide) (fun K hK => ?_)
        refine value_ (w1 := ?_) (v := ?_) (by rfl) rfl ?_ ?_
        rotate_left 2
        · go_simp
          constructor
          · rfl
          · rfl
        refine hK.out _ _ ⟨pw_cell_below (below_alloc (Below.refl _ _) _) hHeld.1, pw_cell_below (below_alloc (Below.refl _ _) _) hHeld.2.1, pw_cell_below (below_alloc (Below.refl _ _) _) hHeld.2.2⟩ (fun hHeld => ?_)
        clear hK K
        refine norm_ (a' := ?_) ?_ ?_
        rotate_left
        · show Act.put _ (some 183) _ = _
          simp only [Act.put, List.setIfInBounds_toArray, List.set_cons_zero, List.set_cons_succ]
          rfl
        refine one_ (i := 16) (N := some 184) #[true, true, true, true, true, true, true, true, true, true, true, true, true, true, true, true, true, false, false] rfl rfl (one_of HT_.out (by kernel_rfl)) (by decide) (fun K hK => ?_)
        refine Kd.R_append_step kA1 (w0 := w) (W := w8.drew) w.heap.size (by rfl) (.tmp 181) (.tmp 183) 66 69 (.slice none 0 0) 24 rfl Tryz.underlying66 Q.info69 rfl (show 0 < 1 by decide) (by decide) (.slice A4 len c4) ((M.getD qn []).getD fn []) ys [.slice A3 ys.length c3] (fun k => w.heap.size + 2 ≤ k) (fun k => w7.heap.size ≤ k) (by rfl) (by rfl) ⟨_, rfl, HRZA.out⟩ (fun k hk => ⟨by have := (H78.out).1; show w.heap.size + 2 ≤ k; omega, fun e => by have := HUB2.out k e.symm; have hk' : w7.heap.size ≤ k := hk; omega⟩) (fun k hk => by have := H78.out; have hk' : w8.heap.size ≤ k := hk; show w.heap.size + 2 ≤ k; omega) HALT.out (HGA.out).g.hb (HGA.out).g.hb.size (by rw [HLL.out]; have := HLM.out; omega) ?_
        intro v5 w5 ho5 hb5 hg5 hat5
        have HM9 := Aside0.mk (HMAdd.out v5 w5 ho5 hg5 hat5)
        obtain ⟨A5, c5, e5⟩ := Kd.R_slice ho5
        rw [← HLEN.out] at e5
        subst e5
        have HG9 := Aside0.mk ((HGA.out).app HALT.out (by decide) hb5 hg5)
        have HR9 := Aside0.mk (R_grown9 HRA.out HALT.out (by decide) (fun _ h => by cases h) hg5)
        have hneA : some ab ≠ (Value.slice A4 len c4).ownBlock := (fun hh => by obtain ⟨⟨cc, hcc⟩, _⟩ := ownBlock_typed HALT.out hh.symm; exact types_ne HABD.out hcc (by decide) rfl)
        have hneG : some g ≠ (Value.slice A4 len c4).ownBlock := (fun hh => by obtain ⟨⟨cc, hcc⟩, _⟩ := ownBlock_typed HALT.out hh.symm; exact types_ne HGBD.out hcc (by decide) rfl)
        have nr := Go.Proofs.YtbmcigakiibncaaGreatDoorW.PrintWords.cell_grown hg5 HRD.out hneA
        have nc := Go.Proofs.YtbmcigakiibncaaGreatDoorW.PrintWords.cell_grown hg5 HCD.out hneG
        have HGB9 := Aside0.mk (blk_grown HGBD.out hg5 hneG)
        have nf := blk_frozen HGB9.out fn
        obtain ⟨n0, n1, n2, n3⟩ := (HG9.out).g.cells
        clear hneA hneG ho5 hb5 hg5 hat5 n0 n1 n3
        refine hK.out _ _ ⟨n2, nr, nc⟩ (fun hHeld => ?_)
        clear hK K
        refine norm_ (a' := ?_) ?_ ?_
        rotate_left
        · show Act.put _ (some 184) _ = _
          simp only [Act.put, List.setIfInBounds_toArray, List.set_cons_zero, List.set_cons_succ]
          rfl
        refine take_ (i := 17) (N := some 185) (v := ?_) (a' := ?_) #[true, true, true, true, true, true, true, true, true, true, true, true, true, true, true, true, true, true, false] rfl rfl (take_ofW HT_.out HW_.out (by kernel_rfl)) (fun _ _ _ h => h) (Or.inl ⟨by rfl, ?_⟩) hHeld ?_ ?_
        rotate_left
        · rintro w' ⟨s0, s1, s2⟩
          go_simp
          with_reducible rfl
        rotate_left
        · simp only [Act.put, List.setIfInBounds_toArray, List.set_cons_zero, List.set_cons_succ]
          rfl
        refine last_ (i := 18) (N := none) #[true, true, true, true, true, true, true, true, true, true, true, true, true, true, true, true, true, true, true] rfl rfl (one_of HT_.out (by kernel_rfl)) (by decide) (fun K hK => ?_)
        refine skip_ (w1 := ?_) (by rfl) rfl ?_ ?_
        rotate_left
        · go_simp
          rfl
        refine hK.out _ _ ?_
        clear hK K
        refine done_ (done_of HT_.out (by kernel_rfl)) ?_
        refine NoPanic.normal ?_
        clear n2 nr nc nf hHeld
        go_wp2
        go_roundg (n - (k + 1))
        case measure => have := HLT.out; omega
        case rel => exact ⟨k + 1, qm + fn, addAlt M qn fn ys, gs, _, HLT.out, Nat.le_refl _, by rw [HKZ.out], rfl, ⟨(HG9.out).far HGBB.out HBLG.out _⟩, ⟨R_other HR9.out g (fun x => by obtain ⟨⟨cc, hcc⟩, _⟩ := ownBlock_typed HR9.out x; exact types_ne hcc HGB9.out (by decide) rfl) (fun _ h => by cases h) (fun kk hkk _ => Below.heap_setCell _ _ _ kk hkk)⟩, HM9, ⟨by rw [addAlt_len]; exact HML.out⟩, HSTEP2, HLA2, HCN2⟩
      · have hqM : ¬ qn < M.length := by rw [HML.out]; exact hqN
        have HSTEP2 := Aside0.mk (show getV t = (gstep states wd.length (((L.drop 2).take n).drop (k + 1)) (qm + fn) M).map fun M => (wd.map valW, st, M) by rw [HSTEP.out, if_neg (by omega)])
        clear hqM
        go_wp2
        go_roundg (n - (k + 1))
        case measure => have := HLT.out; omega
        case rel => exact ⟨k + 1, qm + fn, M, gs, uu, HLT.out, Nat.le_refl _, by rw [HKZ.out], rfl, HG8, HR8, HM8, HML, HSTEP2, HLA2, ⟨fun a b => Nat.le_succ_of_le (HCN.out a b)⟩⟩
    · obtain rfl : k = n := by omega
      have HVV := Aside0.mk (show getV t = some (wd.map valW, st, M) by rw [HV.out, List.drop_eq_nil_of_le (by rw [List.length_take]; omega)]; rfl)
      clear HV hk hgg hlt
      go_wp2
      exact hK.out _ _ _ _ _ _ _ _ _ _ _ _ _ _ _ _ _ _ _ _ _ _ _ _ _ _ _ _ _ _ _ _ _ _ _ _ _ _ _ _ _ _ _ _ _ _ _ _ _ _ _ _ _ _ _ _ _ _ _ _ _ _ _ _ _ _ _ _ _ _ _ _ _ _ _ _ _ _ _ _ _ _ _ _ _ _ _ _ _ _ _ _ _ _ _ _ M gs uu HG.out HR.out HMM.out HML.out HVV.out
end Go.Proofs.YtbmcigakiibncaaGreatDoor.H
namespace Go.Proofs.YtbmcigakiibncaaGreatDoor.H
open Go.RowKit Go.Proofs.YtbmcigakiibncaaGreatDoorW.PrintWords Go.Proofs.YtbmcigakiibncaaGreatDoorW.PrintLast Go.Proofs.YtbmcigakiibncaaGreatDoorW.PrintMore
set_option linter.unusedVariables false
set_option linter.unusedSimpArgs false
set_option maxHeartbeats 8000000 in
set_option maxRecDepth 100000 in
theorem get_calls (t : ByteArray) (w : World) (hm : MX w) :
    Calls Tryz.prog 26 #[.string t] w (GetE t w) := by
  have hmf := run_mkfun9
  have HM := Aside0.mk hm
  have HG := Aside0.mk (GH.start w)
  clear hm
  go_enter_defers Tryz.func26, Tryz.ntmps26
  go_upto_region 1 with (fail)
  generalize ((w.alloc (.cells #[.slice none 0 0, .int .i64 0, .slice none 0 0] 25)).alloc (.cells #[.int .i64 0] 29)) = W1 at *
  cases q1 : decide ((t.size : Int) > 65536) with
  | true =>
    obtain ⟨c0, c1, c2, c3⟩ := (HG.out).cells
    obtain ⟨f0, f1, f2, f3⟩ := (HG.out).frozen
    have HR := Aside0.mk (show getR t = (3, [], 0, []) by unfold getR; rw [if_pos (by have := of_decide_eq_true q1; omega)])
    have HQ := Aside0.mk ((((HG.out).set0 (.slice none 0 0)).set1 (.int .i64 0)).set2 (.slice none 0 0))
    go_wp2
    exact get_ret0 HR.out ((HQ.out).hb.setCell (p := ⟨w.heap.size + 1, 0, none⟩) (Nat.le_succ _) _) (blk_far (HQ.out).ha (by show w.heap.size ≠ w.heap.size + 1; omega) _) (blk_set (HQ.out).he 0 _) _ rfl rfl
  | false =>
  have hsz : t.size ≤ 65536 := by have := of_decide_eq_false q1; omega
  have HSZ := Aside0.mk hsz
  have HSP := Aside0.mk (split_calls t 10 W1 (by omega) ((HM.out).below (HG.out).hb))
  clear q1
  go_wp2_with fail
  refine (HSP.out).mono ?_
  rintro E w2 ⟨rfl, hw⟩
  have hb := below_alloc (Below.refl W1.heap.size W1) (.cells ((chunks t 10).map Value.string).toArray 9)
  have hbn := blk_new W1 (.cells ((chunks t 10).map Value.string).toArray 9)
  rw [← hw] at hb hbn
  have HG2 := Aside0.mk (GL.mk ((HG.out).below hb) hbn (by have := blk_lt (HG.out).he; omega))
  have HLS := Aside0.mk (show (chunks t 10).length ≤ 65537 from by have := chunks_short t 10; omega)
  have HV1 := Aside0.mk (fun h => getV_short (t := t) h)
  have HV2 := Aside0.mk (fun h => getV_end (t := t) h)
  have HV3 := Aside0.mk (fun h => getV_first (t := t) h)
  have HV4 := Aside0.mk (fun i hi h => getV_rank (t := t) (i := i) hi h)
  have HV5 := Aside0.mk (fun h => getV_second (t := t) h)
  have HV6 := Aside0.mk (fun h => getV_sec (t := t) h)
  have HCS := Aside0.mk (fun i => chunk_size t 10 i)
  clear hw hb hbn HG HSP
  generalize hLL : chunks t 10 = L at *
  generalize W1.heap.size = bl at *
  cases q2 : decide ((L.length : Int) < 3) with
  | true =>
    have HN := Aside0.mk (HV1.out (by have := of_decide_eq_true q2; omega))
    go_wp2
    exact get_panic (getR_bad HSZ.out HN.out) (HG2.out).g _ rfl rfl
  | false =>
  have hl3 : 3 ≤ L.length := by have := of_decide_eq_false q2; omega
  have HL3 := Aside0.mk hl3
  have hk := strs_cell (HG2.out).l (show L.length - 1 < L.length by omega)
  have hk0 := strs_cell (HG2.out).l (show 0 < L.length by omega)
  have HLE := Aside0.mk (HV2.out)
  clear HV2
  generalize hle : L.getD (L.length - 1) ByteArray.empty = le at *
  have HLEE := Aside0.mk hle
  generalize hs0 : L.getD 0 ByteArray.empty = s0 at *
  have HS0 := Aside0.mk hs0
  have HS0Z := Aside0.mk (show s0.size ≤ t.size by rw [← hs0]; exact HCS.out 0)
  clear hle hs0
  have hz2 : IntKind.i64.wrap ((L.length : Int) - 1) = (L.length : Int) - 1 := by have := HLS.out; simp [IntKind.wrap, IntKind.bits, IntKind.signed]; omega
  cases q3 : le.toList.isEmpty with
  | false =>
    have HN := Aside0.mk (HLE.out (fun e => by rw [e, Lib.toList_data] at q3; revert q3; decide))
    go_wp2
    exact get_panic (getR_bad HSZ.out HN.out) (HG2.out).g _ rfl rfl
  | true =>
    have HWO := Aside0.mk (wordsB_calls s0 sRanks w2 (by have := HS0Z.out; omega) ((HM.out).below (HG2.out).g.hb))
    go_wp2_with fail
    refine (HWO.out).mono ?_
    rintro E w3 ⟨hb, ⟨hne, rfl⟩ | ⟨hhd, o, rfl, ho, hws⟩⟩
    · have HN := Aside0.mk (HV3.out hne)
      have HG3 := Aside0.mk ((HG2.out).below hb)
      unfold pbad
      go_wp2
      exact get_panic (getR_bad HSZ.out HN.out) (HG3.out).g _ rfl rfl
    · have HG3 := Aside0.mk ((HG2.out).below hb)
      have HWS := Aside0.mk hws
      have HO := Aside0.mk ho
      have HHD := Aside0.mk hhd
      have HBW := Aside0.mk (show w.heap.size + 2 ≤ w2.heap.size from by have := blk_lt (HG2.out).l; have := (HG2.out).hbl; omega)
      have HLEM := Aside0.mk (show le = ByteArray.empty from string_inj (by rw [Lib.toList_data, Lib.toList_data]; rw [Lib.toList_data] at q3; rw [List.isEmpty_iff.1 q3]; rfl))
      clear hb hws ho hhd hk hk0 hz2 HG2 HWO q2 q3
      generalize w2.heap.size = bw at *
      generalize hws0 : chunks s0 32 = ws at *
      generalize hwd : ws.drop 1 = wd at *
      have HWZ := Aside0.mk (show ∀ i, (wd.getD i ByteArray.empty).size ≤ s0.size from fun i => by
        have h1 := chunk_size s0 32 (1 + i)
        rw [hws0] at h1
        rw [← hwd]
        rw [show (ws.drop 1).getD i ByteArray.empty = ws.getD (1 + i) ByteArray.empty by simp [List.getD_eq_getElem?_getD, List.getElem?_drop, Nat.add_comm]]
        exact h1)
      have HWD := Aside0.mk hwd
      have HWS0 := Aside0.mk hws0
      have HWL := Aside0.mk (show wd.length ≤ 65536 from by
        have h1 := chunks_short s0 32
        rw [hws0] at h1
        rw [← hwd, List.length_drop]
        have := HS0Z.out; have := HSZ.out
        omega)
      clear hwd hws0
      go_wp2
      go_loopg [47] wd.length (fun gg v47 wi => ∃ (i : Nat) (A : Option Addr) (c : Nat), i ≤ wd.length ∧ wd.length - i ≤ gg ∧ v47 = .int .i64 i ∧ Aside0 (GL w wi (.slice A i c) (.int .i64 0) (.slice none 0 0) bl L) ∧ Aside0 (wi.heap[bw]? = some (.cells (ws.map Value.string).toArray 9 (0, 0))) ∧ Aside0 (Kd.R (Kd.int .i64) 3 wi w.heap.size (fun k => w.heap.size + 2 ≤ k) (.slice A i c) ((wd.take i).map valW)) ∧ Aside0 (∀ j, j < i → okW (wd.getD j ByteArray.empty) = true))
      case atStart => exact ⟨0, none, 0, Nat.zero_le _, Nat.le_refl _, rfl, HG3, HWS, ⟨Kd.R_nil _ _ _ _ _⟩, ⟨fun j hj => absurd hj (Nat.not_lt_zero _)⟩⟩
      case round =>
        clear HG3 HWS
        obtain ⟨i, A, c, hi, hgg, rfl, HG4, HWB, HR, HOK⟩ := hrel
        by_cases hlt : i < wd.length
        · have hltz : (i : Int) < (wd.length : Int) := by omega
          have hk := words_cell (HWB.out) (show i < (ws.drop 1).length by rw [HWD.out]; exact hlt) (by rw [HWD.out]; exact HO.out)
          rw [HWD.out] at hk
          have HS1Z := Aside0.mk (HWZ.out i)
          have HS1B := Aside0.mk (HV4.out i)
          generalize hs1 : wd.getD i ByteArray.empty = s1 at *
          have HS1 := Aside0.mk hs1
          clear hs1
          go_upto_region 10 with (fail)
          clear hk
          have HN := Aside0.mk (number_calls s1 wr.drew (by have := HS1Z.out; have := HS0Z.out; have := HSZ.out; omega))
          obtain ⟨k0, k1, k2, k3⟩ := (HG4.out).g.cells
          cases q4 : okW s1 with
          | false =>
            have HX := Aside0.mk (HS1B.out hlt q4)
            have HNE := Aside0.mk (show numE s1.data.toList = pbad by unfold numE; rw [show numOk s1.data.toList = false from q4]; rfl)
            rw [HNE.out] at HN
            have HPX := Aside0.mk (fun w4 (hb : Below wr.drew.heap.size wr.drew w4) => (HG4.out).below (below_then (below_drew (Below.refl wr.heap.size wr)) (below_drew (Below.refl wr.heap.size wr)).size hb))
            refine wp_region_any (by kernel_rfl) ?_
            change wpAny _ _ _ _ _ _ _ (World.drew _)
            refine wpAny_ready (rs := [0, 2]) (by kernel_rfl) (by simp) ?_
            refine AllReady.cons rfl (fun K hK => ?_) ?_
            · go_simp
              refine hK _ _ ?_
              clear hK K
              refine wpAny_ready (rs := [1, 2]) (by kernel_rfl) (by simp) ?_
              refine AllReady.cons rfl (fun K hK => ?_) ?_
              · go_simp
                refine hK _ _ ?_
                clear hK K
                refine wpAny_ready (rs := [2]) (by kernel_rfl) (by simp) ?_
                refine AllReady.cons rfl (fun K hK => ?_) ?_
                · go_simp
                  refine hK _ _ ?_
                  clear hK K
                  refine wpAny_ready (rs := [3]) (by kernel_rfl) (by simp) ?_
                  refine AllReady.cons rfl (fun K hK => ?_) ?_
                  · go_simp
                    go_wp2_with (go_at_call 61; refine (HN.out).mono ?_; rintro E w4 ⟨rfl, hb⟩; exact get_panic (getR_bad HSZ.out HX.out) ((HPX.out) _ hb).g _ rfl rfl)
                  exact AllReady.nil
                exact AllReady.nil
              refine AllReady.cons rfl (fun K hK => ?_) ?_
              · go_simp
                refine hK _ _ ?_
                clear hK K
                refine wpAny_ready (rs := [1, 3]) (by kernel_rfl) (by simp) ?_
                refine AllReady.cons rfl (fun K hK => ?_) ?_
                · go_simp
                  refine hK _ _ ?_
                  clear hK K
                  refine wpAny_ready (rs := [3]) (by kernel_rfl) (by simp) ?_
                  refine AllReady.cons rfl (fun K hK => ?_) ?_
                  · go_simp
                    go_wp2_with (go_at_call 61; refine (HN.out).mono ?_; rintro E w4 ⟨rfl, hb⟩; exact get_panic (getR_bad HSZ.out HX.out) ((HPX.out) _ hb).g _ rfl rfl)
                  exact AllReady.nil
                refine AllReady.cons rfl (fun K hK => ?_) ?_
                · go_simp
                  go_wp2_with (go_at_call 61; refine (HN.out).mono ?_; rintro E w4 ⟨rfl, hb⟩; exact get_panic (getR_bad HSZ.out HX.out) ((HPX.out) _ hb).g _ rfl rfl)
                exact AllReady.nil
              exact AllReady.nil
            refine AllReady.cons rfl (fun K hK => ?_) ?_
            · go_simp
              refine hK _ _ ?_
              clear hK K
              refine wpAny_ready (rs := [0, 3]) (by kernel_rfl) (by simp) ?_
              refine AllReady.cons rfl (fun K hK => ?_) ?_
              · go_simp
                refine hK _ _ ?_
                clear hK K
                refine wpAny_ready (rs := [1, 3]) (by kernel_rfl) (by simp) ?_
                refine AllReady.cons rfl (fun K hK => ?_) ?_
                · go_simp
                  refine hK _ _ ?_
                  clear hK K
                  refine wpAny_ready (rs := [3]) (by kernel_rfl) (by simp) ?_
                  refine AllReady.cons rfl (fun K hK => ?_) ?_
                  · go_simp
                    go_wp2_with (go_at_call 61; refine (HN.out).mono ?_; rintro E w4 ⟨rfl, hb⟩; exact get_panic (getR_bad HSZ.out HX.out) ((HPX.out) _ hb).g _ rfl rfl)
                  exact AllReady.nil
                refine AllReady.cons rfl (fun K hK => ?_) ?_
                · go_simp
                  go_wp2_with (go_at_call 61; refine (HN.out).mono ?_; rintro E w4 ⟨rfl, hb⟩; exact get_panic (getR_bad HSZ.out HX.out) ((HPX.out) _ hb).g _ rfl rfl)
                exact AllReady.nil
              refine AllReady.cons rfl (fun K hK => ?_) ?_
              · go_simp
                go_wp2_with (go_at_call 61; refine (HN.out).mono ?_; rintro E w4 ⟨rfl, hb⟩; exact get_panic (getR_bad HSZ.out HX.out) ((HPX.out) _ hb).g _ rfl rfl)
              exact AllReady.nil
            exact AllReady.nil
          | true =>
            have HQ4 := Aside0.mk q4
            refine wp_region_noPanic ?_
            have HN2 := Aside0.mk (show numE s1.data.toList = .returned (.int .i64 (valW s1)) by unfold numE; rw [show numOk s1.data.toList = true from q4]; rfl)
            rw [HN2.out] at HN
            have HPX := Aside0.mk (fun w4 (hb : Below wr.drew.heap.size wr.drew w4) => below_then (below_drew (Below.refl wr.heap.size wr)) (below_drew (Below.refl wr.heap.size wr)).size hb)
            have HLT := Aside0.mk hlt
            have hlen : (((wd.take i).map valW).length + 1) * 8 ≤ 140737488355328 := by rw [List.length_map, List.length_take]; have := HWL.out; omega
            have HLEN := Aside0.mk (show ((wd.take i).map valW).length = i by rw [List.length_map, List.length_take]; omega)
            have HTK := Aside0.mk (show (wd.take i).map valW ++ [valW s1] = (wd.take (i + 1)).map valW by
              rw [List.take_add_one, List.map_append]
              congr 1
              have e : wd[i]? = some s1 := by rw [← HS1.out]; simp [List.getD_eq_getElem?_getD, hlt]
              rw [e]; rfl)
            have HLE1 := Aside0.mk (show ((wd.take (i + 1)).map valW).length = i + 1 by rw [List.length_map, List.length_take]; omega)
            go_region_law (first
              | (go_simp; go_at_call 61; refine (HN.out).mono ?_; rintro E w4 ⟨rfl, hb⟩; have HB4 := Aside0.mk ((HPX.out) w4 hb); clear hb; have HG5 := Aside0.mk ((HG4.out).below HB4.out); have HR5 := Aside0.mk (Kd.R_below HR.out HB4.out); have HWB5 := Aside0.mk (blk_below HWB.out HB4.out); obtain ⟨m0, m1, m2, m3⟩ := (HG5.out).g.cells; have l0 := pw_cell_below (below_alloc (Below.refl w4.heap.size w4) (.cells #[.int .i64 (valW s1)] 3)) m0)
              | (refine Kd.R_append_step (Kd.int .i64) (w0 := w) (W := w4) w.heap.size (by simp [Region.wanted]) (.tmp 52) (.tmp 55) 22 3 (.int .i64 0) 8 rfl Tryz.underlying22 Q.info3 rfl (by decide) (by omega) (.slice A i c) ((wd.take i).map valW) (valW s1) [.int .i64 (valW s1)] (fun k => w.heap.size + 2 ≤ k) (fun _ => False) (by rfl) (by rfl) rfl (fun _ hk => hk.elim) (fun k hk => by have := blk_lt (HG5.out).l; have := (HG5.out).hbl; omega) HR5.out (HG5.out).g.hb (HG5.out).g.hb.size hlen ?_; intro v5 w5 ho5 hb5 hg5 hat5; rw [HTK.out] at ho5; (obtain ⟨A5, c5, e5⟩ := Kd.R_slice ho5); rw [HLE1.out] at e5; subst e5; have HR6 := Aside0.mk ho5; have HG6 := Aside0.mk ((HG5.out).app HR5.out (by decide) hb5 hg5); have HWB6 := Aside0.mk (blk_grown HWB5.out hg5 (fun hk => by obtain ⟨⟨cc, hcc⟩, _⟩ := ownBlock_typed HR5.out hk.symm; exact types_ne hcc HWB5.out (by decide) rfl)); clear ho5 hb5 hg5 hat5; obtain ⟨n0, n1, n2, n3⟩ := (HG6.out).g.cells; obtain ⟨g0, g1, g2, g3⟩ := (HG6.out).g.frozen)
              | fail)
            all_goals
              refine NoPanic.normal ?_
              go_wp2
              go_roundg (wd.length - (i + 1))
              case measure => have := HLT.out; omega
              case rel => exact ⟨i + 1, A5, c5, HLT.out, Nat.le_refl _, by rw [wr_id (x := (i : Int) + 1) (by omega) (by have := HLT.out; have := HWL.out; omega)]; rfl, ⟨(HG6.out).set0 _⟩, ⟨blk_far HWB6.out (by have := HBW.out; show bw ≠ w.heap.size; omega) _⟩, ⟨Kd.R_far HR6.out (p := ⟨w.heap.size, 0, none⟩) (fun k hk he => by have h0 : k = w.heap.size := he; omega) _⟩, ⟨fun j hj => by
                by_cases e : j = i
                · rw [e, HS1.out]; exact HQ4.out
                · exact HOK.out j (by omega)⟩⟩
        · obtain rfl : i = wd.length := by omega
          have HALL := Aside0.mk (show wd.all okW = true from List.all_eq_true.2 fun x hx => by
            obtain ⟨j, hj, hjx⟩ := List.mem_iff_getElem.1 hx
            have h1 := HOK.out j hj
            rw [List.getD_eq_getElem?_getD, List.getElem?_eq_getElem hj, hjx] at h1
            exact h1)
          rw [List.take_length] at HR
          clear hi hgg hlt HOK HWB HV4 HWZ
          have HN12 := Aside0.mk (Nat.lt_of_lt_of_le (show 1 < 3 by decide) HL3.out)
          have hk := strs_cell (HG4.out).l HN12.out
          have HS1Z := Aside0.mk (HCS.out 1)
          generalize hs1 : L.getD 1 ByteArray.empty = s1 at *
          have HS1 := Aside0.mk hs1
          have HWO := Aside0.mk (wordsB_calls s1 sStates wr (by have := HS1Z.out; have := HSZ.out; omega) ((HM.out).below (HG4.out).g.hb))
          clear hs1
          go_wp2_with fail
          refine (HWO.out).mono ?_
          rintro E w4 ⟨hb, ⟨hne, rfl⟩ | ⟨hhd, o2, rfl, ho, hws⟩⟩
          · have HN := Aside0.mk (HV5.out hne)
            have HG5 := Aside0.mk ((HG4.out).below hb)
            unfold pbad
            go_wp2
            exact get_panic (getR_bad HSZ.out HN.out) (HG5.out).g _ rfl rfl
          · have HG5 := Aside0.mk ((HG4.out).below hb)
            have HR5 := Aside0.mk (Kd.R_below HR.out hb)
            have HWS2 := Aside0.mk hws
            have HO2 := Aside0.mk ho
            have HHD2 := Aside0.mk hhd
            have HBW2 := Aside0.mk (show w.heap.size + 2 ≤ wr.heap.size from by have := blk_lt (HG4.out).l; have := (HG4.out).hbl; omega)
            have HWZ2 := Aside0.mk (show ∀ i, ((chunks s1 32).getD i ByteArray.empty).size ≤ 65536 from fun i => by have := chunk_size s1 32 i; have := HS1Z.out; have := HSZ.out; omega)
            clear hb hws ho hhd hk HG4 HR HWO HN12
            generalize wr.heap.size = bw2 at *
            generalize hws0 : chunks s1 32 = ws2 at *
            have HWS20 := Aside0.mk hws0
            clear hws0
            by_cases h3 : (ws2.drop 1).length = 3
            · obtain ⟨p, x1, x2, x3, rfl⟩ : ∃ p x1 x2 x3, ws2 = [p, x1, x2, x3] := by
                rw [List.length_drop] at h3
                match ws2, h3 with
                | [p, x1, x2, x3], _ => exact ⟨p, x1, x2, x3, rfl⟩
              obtain rfl : o2 = 1 := by have := HO2.out; simp at this; exact this
              have z1 : w4.cell? ⟨bw2, 1, none⟩ = some (.string x1) := (blk_cell HWS2.out 1).trans rfl
              have z2 : w4.cell? ⟨bw2, 2, none⟩ = some (.string x2) := (blk_cell HWS2.out 2).trans rfl
              have z3 : w4.cell? ⟨bw2, 3, none⟩ = some (.string x3) := (blk_cell HWS2.out 3).trans rfl
              have HX1Z := Aside0.mk (HWZ2.out 1)
              have HX3Z := Aside0.mk (HWZ2.out 3)
              have HSEC := Aside0.mk (show (secOk [x1, x2, x3] = false → getV t = none) from HV6.out)
              have HCE := Aside0.mk (show ∀ b : Bool, (x2.toList == [115, 116, 97, 114, 116]) = b → decide (x2 = sStart) = b from fun b hb => by
                have e : sStart.toList = [115, 116, 97, 114, 116] := by rw [Lib.toList_data]; rfl
                cases b with
                | true => exact decide_eq_true (string_inj (by rw [e]; exact hb))
                | false => exact decide_eq_false (string_ne (by rw [e]; exact hb)))
              cases q5 : (x2.toList == [115, 116, 97, 114, 116]) with
              | false =>
                have HN := Aside0.mk (HSEC.out (by show (decide (x2 = sStart) && okW x1 && okW x3) = false; rw [HCE.out _ q5]; rfl))
                go_wp2
                exact get_panic (getR_bad HSZ.out HN.out) (HG5.out).g _ rfl rfl
              | true =>
                have HX2 := Aside0.mk (HCE.out _ q5)
                have HN1 := Aside0.mk (number_calls x1 w4 (by have : x1.size ≤ 65536 := HX1Z.out; omega))
                go_wp2_with fail
                refine (HN1.out).mono ?_
                rintro E w5 ⟨rfl, hb⟩
                have HG6 := Aside0.mk ((HG5.out).below hb)
                have HR6 := Aside0.mk (Kd.R_below HR5.out hb)
                have HWS6 := Aside0.mk (blk_below HWS2.out hb)
                clear hb HG5 HR5 HWS2 z1 z2 z3 HN1 q5
                cases q6 : okW x1 with
                | false =>
                  have HN := Aside0.mk (HSEC.out (by show (decide (x2 = sStart) && okW x1 && okW x3) = false; rw [q6, HX2.out]; rfl))
                  rw [show numE x1.data.toList = pbad by unfold numE; rw [show numOk x1.data.toList = false from q6]; rfl]
                  unfold pbad
                  go_wp2
                  exact get_panic (getR_bad HSZ.out HN.out) (HG6.out).g _ rfl rfl
                | true =>
                rw [show numE x1.data.toList = .returned (.int .i64 (valW x1)) by unfold numE; rw [show numOk x1.data.toList = true from q6]; rfl]
                have HX1 := Aside0.mk q6
                have HN3 := Aside0.mk (number_calls x3 w5 (by have : x3.size ≤ 65536 := HX3Z.out; omega))
                have z3 : w5.cell? ⟨bw2, 3, none⟩ = some (.string x3) := (blk_cell HWS6.out 3).trans rfl
                clear q6
                go_wp2_with fail
                refine (HN3.out).mono ?_
                rintro E w6 ⟨rfl, hb⟩
                have HG7 := Aside0.mk ((HG6.out).below hb)
                have HR7 := Aside0.mk (Kd.R_below HR6.out hb)
                clear hb HG6 HR6 HWS6 z3 HN3
                cases q7 : okW x3 with
                | false =>
                  have HN := Aside0.mk (HSEC.out (by show (decide (x2 = sStart) && okW x1 && okW x3) = false; rw [q7, HX1.out, HX2.out]; rfl))
                  rw [show numE x3.data.toList = pbad by unfold numE; rw [show numOk x3.data.toList = false from q7]; rfl]
                  unfold pbad
                  go_wp2
                  exact get_panic (getR_bad HSZ.out HN.out) (HG7.out).g _ rfl rfl
                | true =>
                rw [show numE x3.data.toList = .returned (.int .i64 (valW x3)) by unfold numE; rw [show numOk x3.data.toList = true from q7]; rfl]
                have HX3 := Aside0.mk q7
                clear q7
                obtain ⟨k0, k1, k2, k3⟩ := (HG7.out).g.cells
                obtain ⟨f0, f1, f2, f3⟩ := (HG7.out).g.frozen
                go_upto_region 17 with (fail)
                have HG8 := Aside0.mk ((HG7.out).set1 (.int .i64 (valW x3)))
                have HR8 := Aside0.mk (Kd.R_far HR7.out (p := ⟨w.heap.size, 1, none⟩) (fun k hk he => by have h0 : k = w.heap.size := he; omega) (.int .i64 (valW x3)))
                generalize w6.setCell ⟨w.heap.size, 1, none⟩ (.int .i64 (valW x3)) = w7 at *
                clear HG7 HR7 k0 k1 k2 k3 f0 f1 f2 f3 HX1Z HX3Z HSEC HCE HV6 HWZ2
                have HST := Aside0.mk (num_nonneg HX1.out)
                generalize hst : valW x1 = states at *
                have HSTE := Aside0.mk hst
                clear hst
                have HV := Aside0.mk (getV_main hLL HL3.out (HLEE.out.trans HLEM.out) HS0.out HWS0.out HHD.out HWD.out HALL.out HS1.out HWS20.out HHD2.out (of_decide_eq_true HX2.out) HX1.out HX3.out)
                rw [HSTE.out] at HV
                clear HV1 HV3 HV5 HLE HLEE HLEM HS0 HS0Z HHD HWS0 HALL HS1Z HS1 HHD2 HWS20 HX2 HX3 HO2 HBW HBW2 hLL
                obtain ⟨N, hN⟩ : ∃ N : Nat, (if states < 7 then states else 7) = (N : Int) := ⟨(if states < 7 then states else 7).toNat, by have := HST.out; split <;> omega⟩
                have HN7 := Aside0.mk (show N ≤ 7 ∧ N = (min states 7).toNat from by split at hN <;> omega)
                have hmk : ∀ W : World, (Instr.makeSlice 65 (.int .i64 (wd.length : Int)) (.int .i64 (wd.length : Int))).run Tryz.prog W = .ok (.slice (some ⟨W.heap.size, 0, none⟩) wd.length wd.length) (W.alloc (.cells (madeCells #[.slice none 0 0] wd.length) 66)) := fun W => run_make_row' 65 66 (.slice none 0 0) 24 Tryz.underlying65 Q.info66 rfl .i64 .i64 wd.length (by have := HWL.out; omega) (by have := HWL.out; omega) W
                have hmin : min states 7 = (N : Int) := by have := (HN7.out).2; have := HST.out; omega
                go_wp2
                clear hmin
                go_loopg [85] N (fun gg v85 wi => ∃ (j : Nat) (A2 : Option Addr) (c2 : Nat) (gs : List Nat) (u : Nat → Nat → Value), j ≤ N ∧ N - j ≤ gg ∧ v85 = .int .i64 j ∧ Aside0 (GL w wi (.slice A wd.length c) (.int .i64 (valW x3)) (.slice A2 j c2) bl L) ∧ Aside0 (Kd.R (Kd.int .i64) 3 wi w.heap.size (fun k => w.heap.size + 2 ≤ k) (.slice A wd.length c) (wd.map valW)) ∧ Aside0 (MM w.heap.size (w.heap.size + 2) wi (.slice A2 j c2) (List.replicate j (List.replicate wd.length [])) wd.length gs u))
                case atStart => exact ⟨0, none, 0, [], _, Nat.zero_le _, Nat.le_refl _, rfl, HG8, HR8, ⟨MM.start _ _ _ _⟩⟩
                case round =>
                  clear HG8 HR8
                  obtain ⟨j, A2, c2, gs, u, hj, hgg, rfl, HG9, HR9, HMM⟩ := hrel
                  by_cases hlt : j < N
                  · have hltz : (j : Int) < (N : Int) := by omega
                    have HLT := Aside0.mk hlt
                    go_upto_region 19 with (fail)
                    obtain ⟨k0, k1, k2, k3⟩ := (HG9.out).g.cells
                    have hb1 := below_drew (Below.refl wr.heap.size wr)
                    have hb2 := below_alloc hb1 (.cells (madeCells #[.slice none 0 0] wd.length) 66)
                    have hnew := blk_new wr.drew (.cells (madeCells #[.slice none 0 0] wd.length) 66)
                    have m0 := pw_cell_below hb2 k0
                    have m2 := pw_cell_below hb2 k2
                    have HGA := Aside0.mk ((HG9.out).below hb2)
                    have HRA := Aside0.mk (Kd.R_below HR9.out hb2)
                    have HMA := Aside0.mk ((HMM.out).below hb2)
                    have q0_ := pw_cell_below (below_alloc (Below.refl wr.heap.size wr) (.cells (madeCells #[.slice none 0 0] wd.length) 66)) k0
                    have q2_ := pw_cell_below (below_alloc (Below.refl wr.heap.size wr) (.cells (madeCells #[.slice none 0 0] wd.length) 66)) k2
                    have l0 := pw_cell_below (below_alloc (Below.refl (wr.alloc (.cells (madeCells #[.slice none 0 0] wd.length) 66)).heap.size (wr.alloc (.cells (madeCells #[.slice none 0 0] wd.length) 66))) (.cells #[.slice (some ⟨wr.heap.size, 0, none⟩) wd.length wd.length] 65)) q0_
                    have l2 := pw_cell_below (below_alloc (Below.refl (wr.alloc (.cells (madeCells #[.slice none 0 0] wd.length) 66)).heap.size (wr.alloc (.cells (madeCells #[.slice none 0 0] wd.length) 66))) (.cells #[.slice (some ⟨wr.heap.size, 0, none⟩) wd.length wd.length] 65)) q2_
                    have HNEW := Aside0.mk (show (wr.drew.alloc (.cells (madeCells #[.slice none 0 0] wd.length) 66)).heap[wr.heap.size]? = some (.cells (Array.replicate wd.length (.slice none 0 0)) 66 (0, 0)) from by rw [← made_rep]; exact hnew)
                    have HGSL := Aside0.mk (show gs.length = j by rw [(HMM.out).len]; simp)
                    have HGLT := Aside0.mk (show ∀ q, q < (List.replicate j (List.replicate wd.length ([] : List (List Nd)))).length → gs.getD q 0 ≠ wr.heap.size from fun q hq => by have := blk_lt ((HMM.out).rows q hq).2.1; omega)
                    have HB2 := Aside0.mk (show w.heap.size + 2 ≤ wr.heap.size from by have := blk_lt (HG9.out).l; have := (HG9.out).hbl; omega)
                    clear hb1 hb2 hnew
                    refine wp_region_noPanic ?_
                    go_region_law (first
                      | (refine Kd.R_append_step (kRow wd.length) (w0 := w) (W := wr.drew.alloc (.cells (madeCells #[.slice none 0 0] wd.length) 66)) w.heap.size (by simp [Region.wanted]) (.tmp 88) (.tmp 93) 23 65 (.slice none 0 0) 24 rfl Tryz.underlying23 Q.info65 rfl (show 0 < 1 by decide) (by decide) (.slice A2 j c2) gs wr.heap.size [.slice (some ⟨wr.heap.size, 0, none⟩) wd.length wd.length] (fun k => w.heap.size + 2 ≤ k) (fun _ => False) (by rfl) (by show Value.slice (some ⟨wr.heap.size + 1, 0, none⟩) 1 1 = _; simp) rfl (fun _ hk => hk.elim) (fun k hk => by have := blk_lt (HGA.out).l; have := (HGA.out).hbl; omega) (HMA.out).row (HGA.out).g.hb (HGA.out).g.hb.size (by rw [HGSL.out]; have := (HN7.out).1; have := HLT.out; omega) ?_; intro v5 w5 ho5 hb5 hg5 hat5; have HMP := Aside0.mk ((HMA.out).push wr.heap.size HNEW.out HB2.out HGLT.out ho5 hg5); (obtain ⟨A5, c5, e5⟩ := Kd.R_slice ho5); rw [List.length_append, HGSL.out, List.length_singleton] at e5; subst e5; have HGP := Aside0.mk ((HGA.out).app (HMA.out).row (by decide) hb5 hg5); have HRP := Aside0.mk (R_grown9 HRA.out (HMA.out).row (by decide) (fun _ h => by cases h) hg5); clear ho5 hb5 hg5 hat5; obtain ⟨n0, n1, n2, n3⟩ := (HGP.out).g.cells; obtain ⟨g0, g1, g2, g3⟩ := (HGP.out).g.frozen)
                      | fail)
                    all_goals
                      refine NoPanic.normal ?_
                      go_wp2
                      go_roundg (N - (j + 1))
                      case measure => have := HLT.out; omega
                      case rel => exact ⟨j + 1, A5, c5, gs ++ [wr.heap.size], _, HLT.out, Nat.le_refl _, rfl, ⟨(HGP.out).set2 _⟩, ⟨Kd.R_far HRP.out (p := ⟨w.heap.size, 2, none⟩) (fun k hk he => by have h0 : k = w.heap.size := he; omega) _⟩, ⟨by rw [List.replicate_succ']; exact (HMP.out).far (by omega) _⟩⟩
                  · obtain rfl : N = j := by omega
                    clear hlt hj hgg hmk
                    rw [← (HN7.out).2] at HV
                    have hl3 := HL3.out
                    obtain ⟨n, hn⟩ : ∃ n, L.length = n + 3 := ⟨L.length - 3, by omega⟩
                    have HNL := Aside0.mk hn
                    have HLN := Aside0.mk (show n ≤ 65536 from by have := HLS.out; omega)
                    go_upto_region 22 with (fail)
                    rw [hn]
                    have hz1 : wrap64 ((n : Int) + 3 - 1) = (n : Int) + 2 := by rw [wr_id (by omega) (by have := HLN.out; omega)]; omega
                    have hz2 : (0 : Int) ≤ (n : Int) + 2 ∧ (n : Int) + 2 ≤ (n : Int) + 3 := by omega
                    have hz3 : max ((n : Int) + 2) 0 = (n : Int) + 2 := by omega
                    have hz4 : (2 : Int) ≤ (n : Int) + 2 := by omega
                    have hz5 : ((n : Int) + 2).toNat = n + 2 := by omega
                    go_wp2
                    have HV2 := Aside0.mk (show getV t = (gstep states wd.length ((L.drop 2).take n) (-1) (List.replicate N (List.replicate wd.length []))).map fun M => (wd.map valW, valW x3, M) from by have h0 := HV.out; rw [HNL.out] at h0; exact h0)
                    refine loop26 t w L wd n N bl _ A c A2 c2 (valW x3) states _ _ (List.replicate N (List.replicate wd.length [])) gs u _ _ _ _ _ _ _ _ _ _ _ _ _ _ _ _ _ _ _ _ _ _ _ _ _ _ _ _ _ _ _ _ _ _ _ _ _ _ _ _ _ _ _ _ _ _ _ _ _ _ _ _ _ _ _ _ _ _ _ _ _ _ _ _ _ _ _ _ _ _ _ _ _ _ _ _ _ _ _ _ _ _ _ _ _ _ _ _ _ _ _ _ _ _ _ _ _ _ _ _ _ _ _ _ _ _ _ _ _ _ _ _ _ _ _ _ _ _ _ _ _ _ _ _ _ _ _ _ _ _ _ _ _ _ _ _ _ _ _ _ _ _ _ _ _ _ _ _ _ _ _ _ _ _ _ _ _ _ _ _ _ _ _ _ _ _ _ _ _ _ _ _ _ _ _ _ _ _ _ _ _ _ _ _ _ HSZ HM HCS HWL HNL HLN HN7 HST ⟨List.length_replicate⟩ ⟨fun a b => by simp [List.getD_eq_getElem?_getD, List.getElem?_replicate]; split <;> simp [List.getElem?_replicate]; split <;> simp⟩ HG9 HR9 HMM HV2 ?_
                    clear HG9 HR9 HMM HV2 HV hz1 hz2 hz3 hz4 hz5
                    refine ⟨?_⟩
                    intro u9 u11 u12 u13 u14 u15 u16 u17 u18 u19 u20 u103 u104 u105 u106 u107 u108 u109 u110 u111 u112 u113 u114 u115 u116 u117 u118 u119 u120 u121 u122 u123 u124 u125 u126 u127 u128 u129 u130 u131 u132 u133 u134 u135 u136 u137 u138 u139 u140 u141 u142 u143 u144 u145 u146 u147 u148 u149 u150 u151 u152 u153 u154 u155 u156 u157 u158 u159 u160 u161 u162 u163 u164 u165 u166 u167 u168 u169 u170 u171 u172 u173 u174 u175 u176 u177 u178 u179 u180 u181 u182 u183 u184 u185 u186 W M gs uu hG hR hM hL hVV
                    have HG := Aside0.mk hG
                    have hrd := Kd.R_reads' hR
                    obtain ⟨A2', c2', e, hle, hCM⟩ := hM.reads (by have := HWL.out; omega)
                    injection e with e1 e2 e3
                    subst e1 e3
                    have HCK := Aside0.mk (acheckG_calls (wd.map valW) M (valW x3) A c A2 c2 W hrd.2.2 (by rw [List.length_map]; exact hrd.2.1) hCM)
                    have HR := Aside0.mk hR
                    have HMM := Aside0.mk hM
                    have HL := Aside0.mk hL
                    have HVV := Aside0.mk hVV
                    rw [List.length_map, hL] at HCK
                    obtain ⟨k0, k1, k2, k3⟩ := hG.g.cells
                    clear e2 hG hR hM hrd hle hCM hL hVV
                    cases hq : auB (wd.map valW) (valW x3) M with
                    | false =>
                      rw [chk_false hq] at HCK
                      have HRR := Aside0.mk (show getR t = (10, [], 0, []) by unfold getR; rw [if_neg (by have := HSZ.out; omega), HVV.out]; simp only; rw [if_neg (by rw [chk_false hq]; decide)])
                      clear hq
                      go_wp2_with fail
                      refine (HCK.out).mono ?_
                      rintro E W2 ⟨rfl, hb⟩
                      have HG2 := Aside0.mk ((HG.out).below hb)
                      clear hb k0 k1 k2 k3
                      obtain ⟨k0, k1, k2, k3⟩ := (HG2.out).g.cells
                      obtain ⟨f0, f1, f2, f3⟩ := (HG2.out).g.frozen
                      have HQ := Aside0.mk ((((HG2.out).g.set0 (.slice none 0 0)).set1 (.int .i64 0)).set2 (.slice none 0 0))
                      go_wp2
                      exact get_done (A1 := none) (A2 := none) (c1 := 0) (c2 := 0) (rk := []) (M := []) HRR.out ((HQ.out).hb.setCell (p := ⟨w.heap.size + 1, 0, none⟩) (Nat.le_succ _) _) (blk_far (HQ.out).ha (by show w.heap.size ≠ w.heap.size + 1; omega) _) (blk_set (HQ.out).he 0 _) ⟨rfl, by simp, fun h => absurd h (by simp)⟩ (Nat.le_refl _) ⟨rfl, by simp, fun h => absurd h (by simp)⟩ (Nat.le_refl _) _ rfl rfl
                    | true =>
                      rw [chk_true hq] at HCK
                      have HRR := Aside0.mk (show getR t = (0, wd.map valW, valW x3, M) by unfold getR; rw [if_neg (by have := HSZ.out; omega), HVV.out]; simp only; rw [if_pos (chk_true hq)])
                      clear hq
                      go_wp2_with fail
                      refine (HCK.out).mono ?_
                      rintro E W2 ⟨rfl, hb⟩
                      have HG2 := Aside0.mk ((HG.out).below hb)
                      have HR2 := Aside0.mk (Kd.R_below HR.out hb)
                      have HM2 := Aside0.mk ((HMM.out).below hb)
                      clear hb k0 k1 k2 k3
                      obtain ⟨k0, k1, k2, k3⟩ := (HG2.out).g.cells
                      obtain ⟨f0, f1, f2, f3⟩ := (HG2.out).g.frozen
                      have HQ := Aside0.mk ((((HG2.out).g.set0 (.slice A wd.length c)).set1 (.int .i64 (valW x3))).set2 (.slice A2 N c2))
                      have HR3 := Aside0.mk (fun (a : Nat) (ha : a < w.heap.size + 2) (o : Nat) (y : Value) (W3 : World) (h3 : Kd.R (Kd.int .i64) 3 W3 w.heap.size (fun k => w.heap.size + 2 ≤ k) (.slice A wd.length c) (wd.map valW)) => Kd.R_far h3 (p := ⟨a, o, none⟩) (fun k hk he => by have h0 : k = a := he; omega) y)
                      have HM3 := Aside0.mk (fun (a : Nat) (ha : a < w.heap.size + 2) (o : Nat) (y : Value) (W3 : World) (h3 : MM w.heap.size (w.heap.size + 2) W3 (.slice A2 N c2) M wd.length gs uu) => h3.far (a := a) (j := o) ha y)
                      go_wp2
                      have hr := Kd.R_reads' (HR3.out (w.heap.size + 1) (by omega) 0 (.int .i64 0) _ (HR3.out w.heap.size (by omega) 2 (.slice A2 N c2) _ (HR3.out w.heap.size (by omega) 1 (.int .i64 (valW x3)) _ (HR3.out w.heap.size (by omega) 0 (.slice A wd.length c) _ HR2.out))))
                      have hm := HM3.out (w.heap.size + 1) (by omega) 0 (.int .i64 0) _ (HM3.out w.heap.size (by omega) 2 (.slice A2 N c2) _ (HM3.out w.heap.size (by omega) 1 (.int .i64 (valW x3)) _ (HM3.out w.heap.size (by omega) 0 (.slice A wd.length c) _ HM2.out)))
                      obtain ⟨A2', c2', e, hle, hCM⟩ := hm.reads (by have := HWL.out; omega)
                      injection e with e1 e2 e3
                      subst e1 e3
                      exact get_done (A1 := A) (A2 := A2) (c1 := c) (c2 := c2) (rk := wd.map valW) (M := M) HRR.out ((HQ.out).hb.setCell (p := ⟨w.heap.size + 1, 0, none⟩) (Nat.le_succ _) _) (by rw [List.length_map, HL.out]; exact blk_far (HQ.out).ha (by show w.heap.size ≠ w.heap.size + 1; omega) _) (blk_set (HQ.out).he 0 _) hr.2.2 (by rw [List.length_map]; exact hr.2.1) hCM hle _ rfl rfl
            · have h3z : ¬ (((ws2.drop 1).length : Int) = 3) := by omega
              have HN := Aside0.mk (HV6.out (by
                unfold secOk
                split
                · rename_i h; rw [h] at h3; exact absurd rfl h3
                · rfl))
              generalize (ws2.drop 1).length = nn at *
              go_wp2
              exact get_panic (getR_bad HSZ.out HN.out) (HG5.out).g _ rfl rfl
end Go.Proofs.YtbmcigakiibncaaGreatDoor.H
