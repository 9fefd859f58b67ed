/- spec.Same and the helpers below it; the reference's Same as a plain function. -/
import Derived.Test.YtmphigeefppfpaaHc
import Derived.Test.YtmphigeefppfpaaQ4
import Derived.Test.YtmphigeefppfpaaQ5
namespace Go.Proofs.Ytmphigeefppfpaa.H
open Go.RowKit Go.Proofs.YtmphigeefppfpaaW.PrintWords Go.Proofs.YtmphigeefppfpaaW.PrintLast Go.Proofs.YtmphigeefppfpaaW.PrintMore

theorem eq_drop_step {α : Type} {x y : List α} (hl : x.length = y.length) {j : Nat} (hj : j < x.length) : x.drop j = y.drop j ↔ x[j] = y[j]'(hl ▸ hj) ∧ x.drop (j + 1) = y.drop (j + 1) := by
  rw [List.drop_eq_getElem_cons hj, List.drop_eq_getElem_cons (hl ▸ hj : j < y.length)]
  exact List.cons_eq_cons
theorem equal_l0 (x y : List Int) (hl : x.length = y.length) (hx : x.length ≤ 9223372036854775807) (d : Nat) : ∀ j : Nat, x.length - j = d → j ≤ x.length →
    Ev (fun k => Q.slices_Equal_int_int.l0 k x y (x.length : Int) (j : Int)) (decide (x.drop j = y.drop j)) := by
  induction d with
  | zero =>
    intro j hd hj
    rw [List.drop_eq_nil_of_le (by omega), List.drop_eq_nil_of_le (by omega)]
    refine ev_end fun k => ?_
    simp only [Q.slices_Equal_int_int.l0]
    rw [if_neg (by omega)]; rfl
  | succ d ih =>
    intro j hd hj
    have hlt : j < x.length := by omega
    by_cases h1 : rd x j = rd y j
    · have h2 := ih (j + 1) (by omega) (by omega)
      have h3 : decide (x.drop j = y.drop j) = decide (x.drop (j + 1) = y.drop (j + 1)) := by
        rw [rd_at hlt, rd_at (hl ▸ hlt : j < y.length)] at h1
        simp only [eq_drop_step hl hlt, h1, true_and]
      rw [h3]
      refine ev_next h2 fun k => ?_
      simp only [Q.slices_Equal_int_int.l0]
      rw [if_pos (by omega), if_pos (by omega), if_pos (by omega), if_pos (by omega), if_pos h1, wrap_succ (by omega) (by omega)]
      rfl
    · have h3 : decide (x.drop j = y.drop j) = false := by
        rw [rd_at hlt, rd_at (hl ▸ hlt : j < y.length)] at h1
        simp only [eq_drop_step hl hlt, h1, false_and, decide_false]
      rw [h3]
      refine ev_end fun k => ?_
      simp only [Q.slices_Equal_int_int.l0]
      rw [if_pos (by omega), if_pos (by omega), if_pos (by omega), if_pos (by omega), if_neg h1]
theorem equal_ev (x y : List Int) (hx : x.length ≤ 9223372036854775807) : Ev (fun k => Q.slices_Equal_int_int.f k x y) (decide (x = y)) := by
  by_cases hl : x.length = y.length
  · have := equal_l0 x y hl hx x.length 0 rfl (by omega)
    rw [List.drop_zero, List.drop_zero] at this
    exact Ev.congr (fun k => by unfold Q.slices_Equal_int_int.f; rw [if_pos (by omega)]; rfl) this
  · rw [decide_eq_false (fun e => hl (by rw [e]))]
    exact Ev.congr (fun k => by unfold Q.slices_Equal_int_int.f; rw [if_neg (by omega)]) (Ev.now _)
theorem equal_calls (A0 : Option Addr) (c0 : Nat) (x : List Int) (A1 : Option Addr) (c1 : Nat) (y : List Int) (w : World) (h0 : Kd.C (Kd.int .i64) w A0 x.length x) (k0 : x.length ≤ c0) (h1 : Kd.C (Kd.int .i64) w A1 y.length y) (k1 : y.length ≤ c1) :
    Calls Try.prog 42 #[.slice A0 x.length c0, .slice A1 y.length c1] w fun e w' => e = .returned (.bool (decide (x = y))) ∧ Below w.heap.size w w' := by
  obtain ⟨k, hk⟩ := (equal_ev x y h0.2.1).rounds
  exact (Q.slices_Equal_int_int.calls k A0 c0 x A1 c1 y _ w h0 k0 h1 k1 hk).mono fun _ _ h => ⟨h.1, h.2.below⟩

theorem at_rows {w : World} {A : Option Addr} {xs : List (List Int)} (h : Kd.C (Kd.slice 3 (Kd.int .i64)) w A xs.length xs) {j : Nat} (hj : j < xs.length) : ∃ ad A0 c0, A = some ad ∧ w.cell? (ad.add j) = some (.slice A0 xs[j].length c0) ∧ xs[j].length ≤ c0 ∧ (Kd.int .i64).C w A0 xs[j].length xs[j] := by
  obtain ⟨ad, A0, c0, h1, h2, h3, h4⟩ := Q.at_L1 h (j : Int) (by omega) (by omega)
  rw [rdL_at hj] at h2 h3 h4
  exact ⟨ad, A0, c0, h1, by simpa using h2, h3, h4⟩

def EqEnd (x y : List (List Int)) (w : World) (e : Ending) (w' : World) : Prop := e = .returned (.bool (decide (x = y))) ∧ Below w.heap.size w w'
set_option maxHeartbeats 1000000 in
theorem equalFunc_calls (A0 : Option Addr) (c0 : Nat) (x : List (List Int)) (A1 : Option Addr) (c1 : Nat) (y : List (List Int)) (w : World) (h0 : Kd.C (Kd.slice 3 (Kd.int .i64)) w A0 x.length x) (h1 : Kd.C (Kd.slice 3 (Kd.int .i64)) w A1 y.length y) :
    Calls Try.prog 41 #[.slice A0 x.length c0, .slice A1 y.length c1, .func (.func 42) #[] #[]] w (EqEnd x y w) := by
  have H0 := Aside0.mk h0
  have H1 := Aside0.mk h1
  have hm := h0.2.1
  clear h0 h1
  by_cases hl : x.length = y.length
  · have d0 : (x.length == y.length) = true := beq_iff_eq.2 hl
    have d1 : ((x.length : Int) == (y.length : Int)) = true := beq_iff_eq.2 (by omega)
    have d2 : ((x.length : Int) != (y.length : Int)) = false := bne_eq_false_iff_eq.2 (by omega)
    have HL := Aside0.mk hl
    have eg : ∀ args w, (callFunc 42 args).run Try.prog w = .ok (.enter 42 args) w := fun _ _ => rfl
    clear hl
    go_enter Try.func41, Try.ntmps41
    go_wp2
    go_loopg [17] x.length (fun gg v17 wr => ∃ kk : Nat, kk ≤ x.length ∧ x.length - kk ≤ gg ∧ v17 = .int .i64 kk ∧ Aside0 (Below w.heap.size w wr) ∧ Aside0 (x = y ↔ x.drop kk = y.drop kk))
    case atStart => exact ⟨0, Nat.zero_le _, by omega, rfl, ⟨Below.refl _ _⟩, ⟨by simp⟩⟩
    case round =>
      obtain ⟨kk, hkk, hg, rfl, BW, HA⟩ := hrel
      by_cases hlt : kk < x.length
      · have hltz : (kk : Int) < (x.length : Int) := by omega
        have hlty : kk < y.length := by have := HL.out; omega
        have hltyz : (kk : Int) < (y.length : Int) := by omega
        obtain ⟨ad, B0, e0, hh, hx, hl0, hr0⟩ := at_rows (Kd.C_below H0.out BW.out) hlt
        cases hh
        obtain ⟨ad2, B1, e1, hh, hx2, hl1, hr1⟩ := at_rows (Kd.C_below H1.out BW.out) hlty
        cases hh
        have HC := Aside0.mk (equal_calls B0 e0 x[kk] B1 e1 y[kk] wr hr0 hl0 hr1 hl1)
        have HE := Aside0.mk (HA.out.trans (eq_drop_step HL.out hlt))
        generalize x[kk] = a at *
        generalize y[kk] = b at *
        clear hr0 hr1 hl0 hl1 HA
        by_cases hab : a = b
        · rw [decide_eq_true hab] at HC
          have HE2 := Aside0.mk (HE.out.trans (and_iff_right hab))
          clear hab HE
          go_wp2_with fail
          refine HC.out.mono ?_
          rintro e w1 ⟨rfl, hb⟩
          have HB := Aside0.mk (below_then BW.out (BW.out).size hb)
          clear hb HC
          go_wp2
          go_roundg (x.length - (kk + 1))
          case measure => omega
          case rel => exact ⟨kk + 1, by omega, by omega, by go_num, HB, HE2⟩
        · rw [decide_eq_false hab] at HC
          have HE2 := Aside0.mk (fun h => hab (HE.out.1 h).1 : ¬ x = y)
          clear hab HE
          go_wp2_with fail
          refine HC.out.mono ?_
          rintro e w1 ⟨rfl, hb⟩
          have HB := Aside0.mk (below_then BW.out (BW.out).size hb)
          clear hb HC
          go_wp2
          go_ret
          exact ⟨by rw [decide_eq_false HE2.out]; rfl, HB.out⟩
      · have hltz : ¬ (kk : Int) < (x.length : Int) := by omega
        have HE2 := Aside0.mk (HA.out.2 (by rw [List.drop_eq_nil_of_le (by omega), List.drop_eq_nil_of_le (by have := HL.out; omega)]))
        clear HA
        go_wp2
        go_ret
        exact ⟨by rw [decide_eq_true HE2.out]; rfl, BW.out⟩
  · have d0 : (x.length == y.length) = false := beq_eq_false_iff_ne.2 hl
    have d1 : ((x.length : Int) == (y.length : Int)) = false := beq_eq_false_iff_ne.2 (by omega)
    have d2 : ((x.length : Int) != (y.length : Int)) = true := bne_iff_ne.2 (by omega)
    have HL := Aside0.mk hl
    clear hl
    go_enter Try.func41, Try.ntmps41
    go_wp2
    go_ret
    exact ⟨by rw [decide_eq_false (fun e => HL.out (by rw [e]))]; rfl, Below.refl _ _⟩

/-! ### spec.Same -/
def sameVal (ev st : Int) (l : List (List Int)) (ev2 st2 : Int) (l2 : List (List Int)) : Bool := specOk ev st l && specOk ev2 st2 l2 && decide (ev = ev2) && decide (st = st2) && decide (l = l2)
def SameEnd (b : Bool) (w : World) (e : Ending) (w' : World) : Prop := e = .returned (.bool b) ∧ Below w.heap.size w w'
set_option maxHeartbeats 1000000 in
theorem same_calls (ev st : Int) (A : Option Addr) (c : Nat) (l : List (List Int)) (ev2 st2 : Int) (A2 : Option Addr) (c2 : Nat) (l2 : List (List Int)) (w : World) (hr : Kd.C (Kd.slice 3 (Kd.int .i64)) w A l.length l) (hr2 : Kd.C (Kd.slice 3 (Kd.int .i64)) w A2 l2.length l2) :
    Calls Try.prog 19 #[.agg #[.int .i64 ev, .int .i64 st, .slice A l.length c], .agg #[.int .i64 ev2, .int .i64 st2, .slice A2 l2.length c2]] w (SameEnd (sameVal ev st l ev2 st2 l2) w) := by
  have HC := fun W (hW : Below w.heap.size w W) => check_calls ev st A c l W (Kd.C_below hr hW)
  have HC2 := fun W (hW : Below w.heap.size w W) => check_calls ev2 st2 A2 c2 l2 W (Kd.C_below hr2 hW)
  have HE := Aside0.mk fun W (hW : Below w.heap.size w W) => equalFunc_calls A c l A2 c2 l2 W (Kd.C_below hr hW) (Kd.C_below hr2 hW)
  clear hr hr2
  unfold sameVal
  unfold checkVal at HC HC2
  cases h1 : specOk ev st l with
  | false =>
    simp only [h1, Bool.false_eq_true, if_false] at HC
    have HC := Aside0.mk HC
    clear h1 HC2 HE
    simp only [Bool.false_and]
    go_enter Try.func19, Try.ntmps19
    go_wp2_with fail
    refine (HC.out _ (by repeat (first | exact Below.refl _ _ | apply below_alloc))).mono ?_
    rintro e w1 ⟨rfl, hb⟩
    have HB := Aside0.mk (below_then (below_alloc (below_alloc (Below.refl _ _) _) _) (by simp; omega) hb)
    clear hb HC
    go_wp2
    go_ret
    exact ⟨rfl, HB.out⟩
  | true =>
    simp only [h1, if_true] at HC
    have HC := Aside0.mk HC
    clear h1
    simp only [Bool.true_and]
    cases h2 : specOk ev2 st2 l2 with
    | false =>
      simp only [h2, Bool.false_eq_true, if_false] at HC2
      have HC2 := Aside0.mk HC2
      clear h2 HE
      simp only [Bool.false_and]
      go_enter Try.func19, Try.ntmps19
      go_wp2_with fail
      refine (HC.out _ (by repeat (first | exact Below.refl _ _ | apply below_alloc))).mono ?_
      rintro e w1 ⟨rfl, hb⟩
      have HB := Aside0.mk (below_then (below_alloc (below_alloc (Below.refl _ _) _) _) (by simp; omega) hb)
      have HX2 := Aside0.mk (blk_below (blk_at2 w (.cells #[.int .i64 ev, .int .i64 st, .slice A l.length c] 24) (.cells #[.int .i64 ev2, .int .i64 st2, .slice A2 l2.length c2] 24)) hb)
      clear hb HC
      have y0 : w1.cell? ⟨w.heap.size + 1, 0, none⟩ = some (.int .i64 ev2) := (blk_cell HX2.out 0).trans rfl
      have y1 : w1.cell? ⟨w.heap.size + 1, 1, none⟩ = some (.int .i64 st2) := (blk_cell HX2.out 1).trans rfl
      have y2 : w1.cell? ⟨w.heap.size + 1, 2, none⟩ = some (.slice A2 l2.length c2) := (blk_cell HX2.out 2).trans rfl
      go_wp2_with fail
      refine (HC2.out _ HB.out).mono ?_
      rintro e w2 ⟨rfl, hb⟩
      have HB2 := Aside0.mk (below_then HB.out (HB.out).size hb)
      clear hb HC2 HB HX2
      go_wp2
      go_ret
      exact ⟨rfl, HB2.out⟩
    | true =>
      simp only [h2, if_true] at HC2
      have HC2 := Aside0.mk HC2
      clear h2
      simp only [Bool.true_and]
      have hrest : ∀ b, (decide (ev = ev2) && decide (st = st2) && decide (l = l2)) = b → Calls Try.prog 19 #[.agg #[.int .i64 ev, .int .i64 st, .slice A l.length c], .agg #[.int .i64 ev2, .int .i64 st2, .slice A2 l2.length c2]] w (SameEnd b w) := by
        intro b hbb
        have HBB := Aside0.mk hbb
        clear hbb
        go_enter Try.func19, Try.ntmps19
        go_wp2_with fail
        refine (HC.out _ (by repeat (first | exact Below.refl _ _ | apply below_alloc))).mono ?_
        rintro e w1 ⟨rfl, hb⟩
        have HB := Aside0.mk (below_then (below_alloc (below_alloc (Below.refl _ _) _) _) (by simp; omega) hb)
        have HX := Aside0.mk (blk_below (blk_alloc (blk_new w (.cells #[.int .i64 ev, .int .i64 st, .slice A l.length c] 24)) (.cells #[.int .i64 ev2, .int .i64 st2, .slice A2 l2.length c2] 24)) hb)
        have HX2 := Aside0.mk (blk_below (blk_at2 w (.cells #[.int .i64 ev, .int .i64 st, .slice A l.length c] 24) (.cells #[.int .i64 ev2, .int .i64 st2, .slice A2 l2.length c2] 24)) hb)
        clear hb HC
        have y0 : w1.cell? ⟨w.heap.size + 1, 0, none⟩ = some (.int .i64 ev2) := (blk_cell HX2.out 0).trans rfl
        have y1 : w1.cell? ⟨w.heap.size + 1, 1, none⟩ = some (.int .i64 st2) := (blk_cell HX2.out 1).trans rfl
        have y2 : w1.cell? ⟨w.heap.size + 1, 2, none⟩ = some (.slice A2 l2.length c2) := (blk_cell HX2.out 2).trans rfl
        go_wp2_with fail
        refine (HC2.out _ HB.out).mono ?_
        rintro e w2 ⟨rfl, hb⟩
        have HB2 := Aside0.mk (below_then HB.out (HB.out).size hb)
        have HY := Aside0.mk (blk_below HX.out hb)
        have HY2 := Aside0.mk (blk_below HX2.out hb)
        clear hb HC2 HB HX2 HX y0 y1 y2
        have x0 : w2.cell? ⟨w.heap.size, 0, none⟩ = some (.int .i64 ev) := (blk_cell HY.out 0).trans rfl
        have x1 : w2.cell? ⟨w.heap.size, 1, none⟩ = some (.int .i64 st) := (blk_cell HY.out 1).trans rfl
        have x2 : w2.cell? ⟨w.heap.size, 2, none⟩ = some (.slice A l.length c) := (blk_cell HY.out 2).trans rfl
        have y0 : w2.cell? ⟨w.heap.size + 1, 0, none⟩ = some (.int .i64 ev2) := (blk_cell HY2.out 0).trans rfl
        have y1 : w2.cell? ⟨w.heap.size + 1, 1, none⟩ = some (.int .i64 st2) := (blk_cell HY2.out 1).trans rfl
        have y2 : w2.cell? ⟨w.heap.size + 1, 2, none⟩ = some (.slice A2 l2.length c2) := (blk_cell HY2.out 2).trans rfl
        clear HY HY2
        by_cases e1 : ev = ev2
        · by_cases e2 : st = st2
          · have d1 : (ev == ev2) = true := beq_iff_eq.2 e1
            have d2 : (st == st2) = true := beq_iff_eq.2 e2
            have HBB2 := Aside0.mk (by have := HBB.out; rwa [decide_eq_true e1, decide_eq_true e2, Bool.true_and, Bool.true_and] at this : decide (l = l2) = b)
            clear e1 e2 HBB
            go_wp2_with fail
            refine (HE.out _ HB2.out).mono ?_
            rintro e w3 ⟨rfl, hb⟩
            have HB3 := Aside0.mk (below_then HB2.out (HB2.out).size hb)
            clear hb HE HB2
            generalize decide (l = l2) = b0 at *
            go_wp2
            go_ret
            exact ⟨by rw [← HBB2.out]; rfl, HB3.out⟩
          · have d1 : (ev == ev2) = true := beq_iff_eq.2 e1
            have d2 : (st == st2) = false := beq_eq_false_iff_ne.2 e2
            have HBB2 := Aside0.mk (by have := HBB.out; rwa [decide_eq_true e1, decide_eq_false e2, Bool.true_and, Bool.false_and] at this : false = b)
            clear e1 e2 HBB
            go_wp2
            go_ret
            exact ⟨by rw [← HBB2.out]; rfl, HB2.out⟩
        · have d1 : (ev == ev2) = false := beq_eq_false_iff_ne.2 e1
          have HBB2 := Aside0.mk (by have := HBB.out; rwa [decide_eq_false e1, Bool.false_and, Bool.false_and] at this : false = b)
          clear e1 HBB
          go_wp2
          go_ret
          exact ⟨by rw [← HBB2.out]; rfl, HB2.out⟩
      exact hrest _ rfl

/-! ### the reference's Same -/
theorem rdL_len {ev st : Int} {l : List (List Int)} (h : specOk ev st l = true) {j : Nat} (hj : j < l.length) : (l[j].length : Int) = ev := by
  have := (specOk_row h (q := (j : Int)) (by omega) (by omega)).1
  rwa [rdL_at hj] at this
theorem rsame_l1 (x41 x40 : Int) (ev st ev2 st2 : Int) (l l2 : List (List Int)) (j : Nat) (hj : j < l.length) (hj2 : j < l2.length) (hl : l[j].length = l2[j].length) (hx : l[j].length ≤ 9223372036854775807) (r0 : Bool)
    (h0 : Ev (fun k => Q.virgationref11_Same.l0 k x40 (wrap64 (x41 + 1)) ev st l ev2 st2 l2) r0) (d : Nat) : ∀ i : Nat, l[j].length - i = d → i ≤ l[j].length →
    Ev (fun k => Q.virgationref11_Same.l1 k (j : Int) x40 x41 (l[j].length : Int) (i : Int) ev st l ev2 st2 l2) (decide (l[j].drop i = l2[j].drop i) && r0) := by
  induction d with
  | zero =>
    intro i hd hi
    rw [List.drop_eq_nil_of_le (by omega), List.drop_eq_nil_of_le (by omega)]
    refine ev_next h0 fun k => ?_
    simp only [Q.virgationref11_Same.l1]
    rw [if_neg (by omega)]
  | succ d ih =>
    intro i hd hi
    have hlt : i < l[j].length := by omega
    by_cases h1 : rd l[j] i = rd l2[j] i
    · have h2 := ih (i + 1) (by omega) (by omega)
      have h3 : decide (l[j].drop i = l2[j].drop i) = decide (l[j].drop (i + 1) = l2[j].drop (i + 1)) := by
        rw [rd_at hlt, rd_at (hl ▸ hlt : i < l2[j].length)] at h1
        simp only [eq_drop_step hl hlt, h1, true_and]
      rw [h3]
      refine ev_next h2 fun k => ?_
      simp only [Q.virgationref11_Same.l1]
      rw [if_pos (by omega), if_pos (by omega), if_pos (by omega), if_pos (by omega), if_pos (by rw [rdL_at hj]; omega), if_pos (by omega), if_pos (by rw [rdL_at hj2]; omega), if_pos (by rw [rdL_at hj, rdL_at hj2]; exact h1), wrap_succ (by omega) (by omega)]
      rfl
    · have h3 : decide (l[j].drop i = l2[j].drop i) = false := by
        rw [rd_at hlt, rd_at (hl ▸ hlt : i < l2[j].length)] at h1
        simp only [eq_drop_step hl hlt, h1, false_and, decide_false]
      rw [h3]
      refine ev_end fun k => ?_
      simp only [Q.virgationref11_Same.l1]
      rw [if_pos (by omega), if_pos (by omega), if_pos (by omega), if_pos (by omega), if_pos (by rw [rdL_at hj]; omega), if_pos (by omega), if_pos (by rw [rdL_at hj2]; omega), if_neg (by rw [rdL_at hj, rdL_at hj2]; exact h1)]
      rfl
theorem rsame_l0 (ev st ev2 st2 : Int) (l l2 : List (List Int)) (hs : specOk ev st l = true) (hs2 : specOk ev st2 l2 = true) (hl : l.length = l2.length) (hn : lens l) (d : Nat) : ∀ j : Nat, l.length - j = d → j ≤ l.length →
    Ev (fun k => Q.virgationref11_Same.l0 k (l.length : Int) (j : Int) ev st l ev2 st2 l2) (decide (l.drop j = l2.drop j)) := by
  induction d with
  | zero =>
    intro j hd hj
    rw [List.drop_eq_nil_of_le (by omega), List.drop_eq_nil_of_le (by omega)]
    refine ev_end fun k => ?_
    simp only [Q.virgationref11_Same.l0]
    rw [if_neg (by omega)]; rfl
  | succ d ih =>
    intro j hd hj
    have hlt : j < l.length := by omega
    have hlt2 : j < l2.length := by omega
    have h0 := ih (j + 1) (by omega) (by omega)
    have hn1 := hn.1
    have h1 := rsame_l1 j l.length ev st ev2 st2 l l2 j hlt hlt2 (by have a := rdL_len hs hlt; have b := rdL_len hs2 hlt2; omega) (hn.2 _ (List.getElem_mem hlt)) _ (by rw [wrap_succ (by omega) (by omega)]; exact h0) _ 0 rfl (by omega)
    have h3 : decide (l.drop j = l2.drop j) = (decide (l[j].drop 0 = l2[j].drop 0) && decide (l.drop (j + 1) = l2.drop (j + 1))) := by
      rw [List.drop_zero, List.drop_zero, ← Bool.decide_and]
      simp only [eq_drop_step hl hlt]
    rw [h3]
    refine ev_next h1 fun k => ?_
    simp only [Q.virgationref11_Same.l0]
    rw [if_pos (by omega), if_pos (by omega), if_pos (by omega), rdL_at hlt]
    rfl
theorem rsame_ev (ev st ev2 st2 : Int) (l l2 : List (List Int)) (hn : lens l) (hn2 : lens l2) : Ev (fun k => Q.virgationref11_Same.f k ev st l ev2 st2 l2) (sameVal ev st l ev2 st2 l2) := by
  have hbad : ∀ b : Bool, b = true → Ev (fun k => Q.virgationref11_Same.j0 k b ev st l ev2 st2 l2) false := by
    rintro b rfl
    exact ev_end fun k => by simp only [Q.virgationref11_Same.j0]; rfl
  unfold Q.virgationref11_Same.f sameVal
  refine Ev.bind (is_ev ev st l hn) ?_
  cases h1 : specOk ev st l with
  | false => exact Ev.congr (fun k => by rw [if_neg (by simp)]) (hbad true rfl)
  | true =>
    refine Ev.congr (fun k => by rw [if_pos rfl]) ?_
    refine Ev.bind (is_ev ev2 st2 l2 hn2) ?_
    cases h2 : specOk ev2 st2 l2 with
    | false => exact Ev.congr (fun k => by rw [if_neg (by simp)]) (hbad true rfl)
    | true =>
      by_cases e1 : ev = ev2
      · by_cases e2 : st = st2
        · simp only [decide_eq_true e1, decide_eq_true e2, Bool.true_and]
          by_cases e3 : l.length = l2.length
          · subst e1
            have := rsame_l0 ev st ev st2 l l2 h1 h2 e3 hn _ 0 rfl (by omega)
            rw [List.drop_zero, List.drop_zero] at this
            refine Ev.congr (fun k => by rw [if_pos trivial, if_pos rfl, if_pos e2, bne_eq_false_iff_eq.2 (by omega : (l.length : Int) = l2.length)]) (ev_next this fun k => by simp only [Q.virgationref11_Same.j0]; rw [if_neg (by simp)]; rfl)
          · rw [decide_eq_false (fun e => e3 (by rw [e]))]
            exact Ev.congr (fun k => by rw [if_pos trivial, if_pos e1, if_pos e2]) (hbad _ (bne_iff_ne.2 (by omega)))
        · simp only [decide_eq_true e1, decide_eq_false e2, Bool.true_and, Bool.false_and]
          exact Ev.congr (fun k => by rw [if_pos trivial, if_pos e1, if_neg e2]) (hbad true rfl)
      · simp only [decide_eq_false e1, Bool.true_and, Bool.false_and]
        exact Ev.congr (fun k => by rw [if_pos trivial, if_neg e1]) (hbad true rfl)
theorem rsame_calls (ev st : Int) (A : Option Addr) (c : Nat) (l : List (List Int)) (ev2 st2 : Int) (A2 : Option Addr) (c2 : Nat) (l2 : List (List Int)) (w : World) (hr : Kd.C (Kd.slice 3 (Kd.int .i64)) w A l.length l) (hc : l.length ≤ c) (hr2 : Kd.C (Kd.slice 3 (Kd.int .i64)) w A2 l2.length l2) (hc2 : l2.length ≤ c2) :
    Calls Try.prog 21 #[.agg #[.int .i64 ev, .int .i64 st, .slice A l.length c], .agg #[.int .i64 ev2, .int .i64 st2, .slice A2 l2.length c2]] w (SameEnd (sameVal ev st l ev2 st2 l2) w) := by
  obtain ⟨k, hk⟩ := (rsame_ev ev st ev2 st2 l l2 (lens_of_C hr) (lens_of_C hr2)).rounds
  exact Q.virgationref11_Same.calls k ev st A c l ev2 st2 A2 c2 l2 _ w hr hc hr2 hc2 hk
theorem ris_calls (ev st : Int) (A : Option Addr) (c : Nat) (l : List (List Int)) (w : World) (hr : Kd.C (Kd.slice 3 (Kd.int .i64)) w A l.length l) (hc : l.length ≤ c) :
    Calls Try.prog 20 #[.agg #[.int .i64 ev, .int .i64 st, .slice A l.length c]] w (SameEnd (specOk ev st l) w) := by
  obtain ⟨k, hk⟩ := (is_ev ev st l (lens_of_C hr)).rounds
  exact Q.virgationref11_Is.calls k ev st A c l _ w hr hc hk
theorem rcheck_calls (ev st : Int) (A : Option Addr) (c : Nat) (l : List (List Int)) (w : World) (hr : Kd.C (Kd.slice 3 (Kd.int .i64)) w A l.length l) (hc : l.length ≤ c) :
    Calls Try.prog 18 #[.agg #[.int .i64 ev, .int .i64 st, .slice A l.length c]] w fun e w' => e = .returned (.int .i64 (checkVal ev st l)) ∧ Below w.heap.size w w' := by
  obtain ⟨k, hk⟩ := (is_ev ev st l (lens_of_C hr)).rounds
  refine Q.virgationref11_Check.calls k ev st A c l _ w hr hc ?_
  unfold Q.virgationref11_Check.f checkVal
  rw [hk]
  cases specOk ev st l <;> rfl

/-! ### the laws -/
theorem keep_below {w W W1 : World} (hb : Below W.heap.size W W1) (h : Aside0 (Below w.heap.size w W)) : Aside0 (Below w.heap.size w W1) := ⟨below_then h.out h.out.size hb⟩
theorem keep_blk {W W1 : World} {g : Nat} {o : Obj} (hb : Below W.heap.size W W1) (h : Aside0 (W.heap[g]? = some o)) : Aside0 (W1.heap[g]? = some o) := ⟨blk_below h.out hb⟩
theorem held3 {W : World} {g : Nat} {a b c : Value} (h : Aside0 (W.heap[g]? = some (.cells #[a, b, c] 24 (0, 0)))) : W.cell? ⟨g, 0, none⟩ = some a ∧ W.cell? ⟨g, 1, none⟩ = some b ∧ W.cell? ⟨g, 2, none⟩ = some c :=
  ⟨(blk_cell h.out 0).trans rfl, (blk_cell h.out 1).trans rfl, (blk_cell h.out 2).trans rfl⟩
def two3 (w W : World) (x y : Array Value) : Prop := Aside0 (Below w.heap.size w W) ∧ Aside0 (W.heap[w.heap.size]? = some (.cells x 24 (0, 0))) ∧ Aside0 (W.heap[w.heap.size + 1]? = some (.cells y 24 (0, 0)))
theorem two3_keep {w W W1 : World} {x y : Array Value} (hb : Below W.heap.size W W1) (h : two3 w W x y) : two3 w W1 x y := ⟨keep_below hb h.1, keep_blk hb h.2.1, keep_blk hb h.2.2⟩
theorem two3_held {w W : World} {a b c a' b' c' : Value} (h : two3 w W #[a, b, c] #[a', b', c']) : (W.cell? ⟨w.heap.size, 0, none⟩ = some a ∧ W.cell? ⟨w.heap.size, 1, none⟩ = some b ∧ W.cell? ⟨w.heap.size, 2, none⟩ = some c) ∧
    (W.cell? ⟨w.heap.size + 1, 0, none⟩ = some a' ∧ W.cell? ⟨w.heap.size + 1, 1, none⟩ = some b' ∧ W.cell? ⟨w.heap.size + 1, 2, none⟩ = some c') := ⟨held3 h.2.1, held3 h.2.2⟩
theorem two3_start (w : World) (x y : Array Value) : two3 w ((w.alloc (.cells x 24)).alloc (.cells y 24)).drew x y := ⟨⟨below_drew (below_alloc (below_alloc (Below.refl _ _) _) _)⟩, ⟨blk_alloc (blk_new w (.cells x 24)) (.cells y 24)⟩, ⟨blk_at2 w (.cells x 24) (.cells y 24)⟩⟩
set_option maxHeartbeats 4000000 in
set_option maxRecDepth 100000 in
theorem specSame_calls (ev st : Int) (A : Option Addr) (c : Nat) (l : List (List Int)) (ev2 st2 : Int) (A2 : Option Addr) (c2 : Nat) (l2 : List (List Int)) (w : World) (hr : Kd.C (Kd.slice 3 (Kd.int .i64)) w A l.length l) (hc : l.length ≤ c) (hr2 : Kd.C (Kd.slice 3 (Kd.int .i64)) w A2 l2.length l2) (hc2 : l2.length ≤ c2) :
    Calls Try.prog 5 #[.agg #[.int .i64 ev, .int .i64 st, .slice A l.length c], .agg #[.int .i64 ev2, .int .i64 st2, .slice A2 l2.length c2]] w fun e w' => e = .returned (.bool true) ∧ Below w.heap.size w w' := by
  have H1 := Aside0.mk fun W (hW : Below w.heap.size w W) => same_calls ev st A c l ev2 st2 A2 c2 l2 W (Kd.C_below hr hW) (Kd.C_below hr2 hW)
  have H2 := Aside0.mk fun W (hW : Below w.heap.size w W) => rsame_calls ev st A c l ev2 st2 A2 c2 l2 W (Kd.C_below hr hW) hc (Kd.C_below hr2 hW) hc2
  clear hr hr2 hc hc2
  generalize sameVal ev st l ev2 st2 l2 = b at *
  have db : (b == b) = true := beq_self_eq_true _
  go_enter Try.func5, Try.ntmps5
  go_wp2_with fail
  have HS := two3_start w #[.int .i64 ev, .int .i64 st, .slice A l.length c] #[.int .i64 ev2, .int .i64 st2, .slice A2 l2.length c2]
  generalize ((w.alloc (.cells #[.int .i64 ev, .int .i64 st, .slice A l.length c] 24)).alloc (.cells #[.int .i64 ev2, .int .i64 st2, .slice A2 l2.length c2] 24)) = W0 at *
  go_region_held3 (fun w' => (w'.cell? ⟨w.heap.size, 0, none⟩ = some (.int .i64 ev) ∧ w'.cell? ⟨w.heap.size, 1, none⟩ = some (.int .i64 st) ∧ w'.cell? ⟨w.heap.size, 2, none⟩ = some (.slice A l.length c)) ∧
      (w'.cell? ⟨w.heap.size + 1, 0, none⟩ = some (.int .i64 ev2) ∧ w'.cell? ⟨w.heap.size + 1, 1, none⟩ = some (.int .i64 st2) ∧ w'.cell? ⟨w.heap.size + 1, 2, none⟩ = some (.slice A2 l2.length c2)))
    (exact two3_held (by assumption)) (first
      | (go_at_call 19; refine (H1.out _ (HS.1).out).mono ?_; rintro e w1 ⟨rfl, hb⟩; have HS1 := two3_keep hb HS; clear hb HS)
      | (go_at_call 21; refine (H2.out _ (HS1.1).out).mono ?_; rintro e w2 ⟨rfl, hb⟩; have HS2 := two3_keep hb HS1; clear hb HS1)
      | (go_at_call 16; refine (alive_calls _).mono ?_; rintro e w3 ⟨rfl, hb⟩; have HS3 := two3_keep hb HS2; clear hb HS2))
  go_wp2
  go_ret
  exact ⟨rfl, (HS3.1).out⟩

def one3 (w W : World) (x : Array Value) : Prop := Aside0 (Below w.heap.size w W) ∧ Aside0 (W.heap[w.heap.size]? = some (.cells x 24 (0, 0)))
theorem one3_keep {w W W1 : World} {x : Array Value} (hb : Below W.heap.size W W1) (h : one3 w W x) : one3 w W1 x := ⟨keep_below hb h.1, keep_blk hb h.2⟩
theorem one3_held {w W : World} {a b c : Value} (h : one3 w W #[a, b, c]) : W.cell? ⟨w.heap.size, 0, none⟩ = some a ∧ W.cell? ⟨w.heap.size, 1, none⟩ = some b ∧ W.cell? ⟨w.heap.size, 2, none⟩ = some c := held3 h.2
theorem one3_start (w : World) (x : Array Value) : one3 w (w.alloc (.cells x 24)).drew x := ⟨⟨below_drew (below_alloc (Below.refl _ _) _)⟩, ⟨blk_new w (.cells x 24)⟩⟩
theorem sameVal_self (ev st : Int) (l : List (List Int)) : sameVal ev st l ev st l = specOk ev st l := by simp [sameVal]
set_option maxHeartbeats 4000000 in
set_option maxRecDepth 100000 in
theorem specCheck_calls (ev st : Int) (A : Option Addr) (c : Nat) (l : List (List Int)) (w : World) (hr : Kd.C (Kd.slice 3 (Kd.int .i64)) w A l.length l) (hc : l.length ≤ c) :
    Calls Try.prog 4 #[.agg #[.int .i64 ev, .int .i64 st, .slice A l.length c]] w fun e w' => e = .returned (.bool true) ∧ Below w.heap.size w w' := by
  have H1 := Aside0.mk fun W (hW : Below w.heap.size w W) => check_calls ev st A c l W (Kd.C_below hr hW)
  have H2 := Aside0.mk fun W (hW : Below w.heap.size w W) => rcheck_calls ev st A c l W (Kd.C_below hr hW) hc
  have H3 := Aside0.mk fun W (hW : Below w.heap.size w W) => same_calls ev st A c l ev st A c l W (Kd.C_below hr hW) (Kd.C_below hr hW)
  have H4 := Aside0.mk fun W (hW : Below w.heap.size w W) => ris_calls ev st A c l W (Kd.C_below hr hW) hc
  rw [sameVal_self] at H3
  clear hr hc
  generalize specOk ev st l = b at *
  generalize checkVal ev st l = i at *
  have db : (b == b) = true := beq_self_eq_true _
  have di : (i == i) = true := beq_self_eq_true _
  go_enter Try.func4, Try.ntmps4
  go_wp2_with fail
  have HS := one3_start w #[.int .i64 ev, .int .i64 st, .slice A l.length c]
  generalize (w.alloc (.cells #[.int .i64 ev, .int .i64 st, .slice A l.length c] 24)) = W0 at *
  go_region_held3 (fun w' => w'.cell? ⟨w.heap.size, 0, none⟩ = some (.int .i64 ev) ∧ w'.cell? ⟨w.heap.size, 1, none⟩ = some (.int .i64 st) ∧ w'.cell? ⟨w.heap.size, 2, none⟩ = some (.slice A l.length c))
    (exact one3_held (by assumption)) (first
      | (go_at_call 17; refine (H1.out _ (HS.1).out).mono ?_; rintro e w1 ⟨rfl, hb⟩; have HS1 := one3_keep hb HS; clear hb HS)
      | (go_at_call 18; refine (H2.out _ (HS1.1).out).mono ?_; rintro e w2 ⟨rfl, hb⟩; have HS2 := one3_keep hb HS1; clear hb HS1)
      | (go_at_call 19; refine (H3.out _ (HS2.1).out).mono ?_; rintro e w3 ⟨rfl, hb⟩; have HS3 := one3_keep hb HS2; clear hb HS2)
      | (go_at_call 20; refine (H4.out _ (HS3.1).out).mono ?_; rintro e w4 ⟨rfl, hb⟩; have HS4 := one3_keep hb HS3; clear hb HS3)
      | (go_at_call 16; refine (alive_calls _).mono ?_; rintro e w5 ⟨rfl, hb⟩; have HS5 := one3_keep hb HS4; clear hb HS4))
  go_wp2
  go_ret
  exact ⟨rfl, (HS5.1).out⟩
end Go.Proofs.Ytmphigeefppfpaa.H
