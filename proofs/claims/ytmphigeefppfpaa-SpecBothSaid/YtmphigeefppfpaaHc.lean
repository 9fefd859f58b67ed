/- The reference's Is and Read, as plain functions. -/
import Derived.Test.YtmphigeefppfpaaHb
namespace Go.Proofs.Ytmphigeefppfpaa.H
open Go.RowKit Go.Proofs.YtmphigeefppfpaaW.PrintWords Go.Proofs.YtmphigeefppfpaaW.PrintLast Go.Proofs.YtmphigeefppfpaaW.PrintMore
open Q

theorem wrap_succ {i : Int} (h0 : 0 ≤ i) (h1 : i < 9223372036854775807) : wrap64 (i + 1) = i + 1 := by
  unfold wrap64; omega
def qOk (n x : Int) : Bool := decide (-1 ≤ x) && decide (x < n)
theorem all_drop {α : Type} {p : α → Bool} {xs : List α} {j : Nat} (h : j < xs.length) : (xs.drop j).all p = (p xs[j] && (xs.drop (j + 1)).all p) := by
  rw [List.drop_eq_getElem_cons h, List.all_cons]
theorem rd_at {xs : List Int} {j : Nat} (h : j < xs.length) : rd xs (j : Int) = xs[j] := by
  simp [rd, List.getD_eq_getElem?_getD, List.getElem?_eq_getElem h]
theorem rdL_at {xs : List (List Int)} {j : Nat} (h : j < xs.length) : rd_L1 xs (j : Int) = xs[j] := by
  simp [rd_L1, List.getD_eq_getElem?_getD, List.getElem?_eq_getElem h]
/-- One round more. -/
theorem ev_next {α : Type} {g f : Nat → Option α} {r : α} (k : Ev f r) (h : ∀ k, g (k + 1) = f k) : Ev g r := Ev.step h k
theorem ev_end {α : Type} {g : Nat → Option α} {r : α} (h : ∀ k, g (k + 1) = some r) : Ev g r := Ev.step (f := fun _ => some r) h (Ev.now r)

theorem is_l1 (n : Int) (x39 : List (List Int)) (x40 x41 : Int) (y : List Int) (ev st : Int) (l : List (List Int)) (hy : y.length ≤ 9223372036854775807) (r0 : Bool)
    (h0 : Ev (fun k => virgationref11_Is.l0 k n x39 x40 (wrap64 (x41 + 1)) ev st l) r0) (d : Nat) :
    ∀ j : Nat, y.length - j = d → j ≤ y.length → Ev (fun k => virgationref11_Is.l1 k n x39 x40 x41 y (y.length : Int) (j : Int) ev st l) ((y.drop j).all (qOk n) && r0) := by
  induction d with
  | zero =>
    intro j hd hj
    rw [List.drop_eq_nil_of_le (by omega)]
    refine ev_next h0 fun k => ?_
    simp only [virgationref11_Is.l1]
    rw [if_neg (by omega)]
  | succ d ih =>
    intro j hd hj
    have hlt : j < y.length := by omega
    rw [all_drop hlt]
    by_cases h1 : rd y j < -1
    · refine ev_end fun k => ?_
      simp only [virgationref11_Is.l1]
      rw [if_pos (by omega), if_pos (by omega), if_pos (by omega), if_pos h1]
      have : qOk n y[j] = false := by rw [← rd_at hlt]; simp [qOk]; omega
      rw [this]; rfl
    · by_cases h2 : rd y j ≥ n
      · refine ev_end fun k => ?_
        simp only [virgationref11_Is.l1]
        rw [if_pos (by omega), if_pos (by omega), if_pos (by omega), if_neg h1, if_pos h2]
        have : qOk n y[j] = false := by rw [← rd_at hlt]; simp [qOk]; omega
        rw [this]; rfl
      · have : qOk n y[j] = true := by rw [← rd_at hlt]; simp [qOk]; omega
        rw [this, Bool.true_and]
        refine ev_next (ih (j + 1) (by omega) (by omega)) fun k => ?_
        simp only [virgationref11_Is.l1]
        rw [if_pos (by omega), if_pos (by omega), if_pos (by omega), if_neg h1, if_neg h2, wrap_succ (by omega) (by omega)]
        rfl

theorem is_l0 (x39 : List (List Int)) (ev st : Int) (l : List (List Int)) (hl : x39.length ≤ 9223372036854775807) (hy : ∀ y ∈ x39, y.length ≤ 9223372036854775807) (n : Nat) (d : Nat) :
    ∀ j : Nat, x39.length - j = d → j ≤ x39.length → Ev (fun k => virgationref11_Is.l0 k n x39 (x39.length : Int) (j : Int) ev st l) ((x39.drop j).all (rowOk ev n)) := by
  induction d with
  | zero =>
    intro j hd hj
    rw [List.drop_eq_nil_of_le (by omega)]
    refine ev_end fun k => ?_
    simp only [virgationref11_Is.l0]
    rw [if_neg (by omega)]
    rfl
  | succ d ih =>
    intro j hd hj
    have hlt : j < x39.length := by omega
    rw [all_drop hlt]
    by_cases h1 : ((rd_L1 x39 j).length : Int) = ev
    · have h2 := ih (j + 1) (by omega) (by omega)
      have h3 := is_l1 n x39 x39.length j (rd_L1 x39 j) ev st l (by rw [rdL_at hlt]; exact hy _ (List.getElem_mem hlt)) _ (by rw [wrap_succ (by omega) (by omega)]; exact h2) _ 0 rfl (by omega)
      have h4 : rowOk ev n x39[j] = ((rd_L1 x39 j).drop 0).all (qOk n) := by
        rw [rdL_at hlt] at h1
        rw [rdL_at hlt, rowOk, decide_eq_true h1, Bool.true_and, List.drop_zero]
        rfl
      rw [h4]
      refine ev_next h3 fun k => ?_
      simp only [virgationref11_Is.l0]
      rw [if_pos (by omega), if_pos (by omega), if_pos (by omega), if_pos h1]
      rfl
    · have h4 : rowOk ev n x39[j] = false := by
        rw [rdL_at hlt] at h1
        simp [rowOk, h1]
      rw [h4, Bool.false_and]
      refine ev_end fun k => ?_
      simp only [virgationref11_Is.l0]
      rw [if_pos (by omega), if_pos (by omega), if_pos (by omega), if_neg h1]

/-- Lengths as the model has them. -/
def lens (l : List (List Int)) : Prop := l.length ≤ 9223372036854775807 ∧ ∀ y ∈ l, y.length ≤ 9223372036854775807
theorem is_ev (ev st : Int) (l : List (List Int)) (hl : lens l) : Ev (fun k => virgationref11_Is.f k ev st l) (specOk ev st l) := by
  have hbad : ∀ b : Bool, b = true → Ev (fun k => virgationref11_Is.j0 k (l.length : Int) b ev st l) false := by
    rintro b rfl
    exact ev_end fun k => by simp only [virgationref11_Is.j0]; rfl
  unfold specOk
  cases h : headOk ev st l.length with
  | false =>
    rw [Bool.false_and]
    rcases headOk_false h with h0 | ⟨h0, h1⟩ | ⟨h0, h1, h2⟩ | ⟨h0, h1, h2, h3⟩ | ⟨h0, h1, h2, h3, h4⟩ | ⟨h0, h1, h2, h3, h4, h5⟩
    · exact Ev.congr (fun k => by unfold virgationref11_Is.f; rw [if_pos h0]) (hbad true rfl)
    · exact Ev.congr (fun k => by unfold virgationref11_Is.f; rw [if_neg h0, if_pos h1]) (hbad true rfl)
    · exact Ev.congr (fun k => by unfold virgationref11_Is.f; rw [if_neg h0, if_neg h1, if_pos h2]) (hbad true rfl)
    · exact Ev.congr (fun k => by unfold virgationref11_Is.f; rw [if_neg h0, if_neg h1, if_neg h2, if_pos h3]) (hbad true rfl)
    · exact Ev.congr (fun k => by unfold virgationref11_Is.f; rw [if_neg h0, if_neg h1, if_neg h2, if_neg h3, if_pos h4]) (hbad true rfl)
    · exact Ev.congr (fun k => by unfold virgationref11_Is.f; rw [if_neg h0, if_neg h1, if_neg h2, if_neg h3, if_neg h4]) (hbad (decide (st ≥ (l.length : Int))) (decide_eq_true h5))
  | true =>
    obtain ⟨h0, h1, h2, h3, h4, h5⟩ := headOk_true h
    rw [Bool.true_and]
    have := is_l0 l ev st l hl.1 hl.2 l.length l.length 0 rfl (by omega)
    rw [List.drop_zero] at this
    refine Ev.congr (f := fun k => virgationref11_Is.j0 k (l.length : Int) false ev st l) (fun k => by unfold virgationref11_Is.f; rw [if_neg h0, if_neg h1, if_neg h2, if_neg h3, if_neg h4, decide_eq_false h5]) ?_
    exact ev_next this fun k => by simp only [virgationref11_Is.j0]; rw [if_neg (by simp)]; rfl

theorem lens_of_C {w : World} {A : Option Addr} {l : List (List Int)} (h : Kd.C (Kd.slice 3 (Kd.int .i64)) w A l.length l) : lens l := by
  refine ⟨h.2.1, fun y hy => ?_⟩
  obtain ⟨j, hj, rfl⟩ := List.getElem_of_mem hy
  obtain ⟨ad, e, hc⟩ := h.2.2 (by omega)
  obtain ⟨c, _, hK, _⟩ := hc j _ (List.getElem?_eq_getElem hj)
  obtain ⟨A', c', _, _, hC⟩ := hK
  exact hC.2.1

/-! ### the reference's Read -/
theorem any_drop {p : Int → Bool} {xs : List Int} {j : Nat} (h : j < xs.length) : (xs.drop j).any p = (p xs[j] || (xs.drop (j + 1)).any p) := by
  rw [List.drop_eq_getElem_cons h, List.any_cons]
theorem read_l0 (x1 xs : List Int) (ev st : Int) (l : List (List Int)) (hx : xs.length ≤ 9223372036854775807) (r0 : Int × Int × Int)
    (h0 : Ev (fun k => virgationref11_Read.l1 k x1 st x1 (x1.length : Int) 0 ev st l) r0 ∨ xs.any (evBad ev) = true) (d : Nat) :
    ∀ j : Nat, xs.length - j = d → j ≤ xs.length → ((xs.any (evBad ev) = true) → (xs.drop j).any (evBad ev) = true) → Ev (fun k => virgationref11_Read.l0 k x1 xs (xs.length : Int) (j : Int) ev st l) (if (xs.drop j).any (evBad ev) then (0, 0, 2) else r0) := by
  induction d with
  | zero =>
    intro j hd hj hall
    rw [List.drop_eq_nil_of_le (by omega)] at hall ⊢
    rcases h0 with h0 | h0
    · refine ev_next h0 fun k => ?_
      simp only [virgationref11_Read.l0]
      rw [if_neg (by omega)]
    · exact absurd (hall h0) (by simp)
  | succ d ih =>
    intro j hd hj hall
    have hlt : j < xs.length := by omega
    rw [any_drop hlt] at hall ⊢
    by_cases h1 : rd xs j < 0
    · refine ev_end fun k => ?_
      simp only [virgationref11_Read.l0]
      rw [if_pos (by omega), if_pos (by omega), if_pos (by omega), if_pos h1]
      have : evBad ev xs[j] = true := by rw [← rd_at hlt]; simp [evBad]; omega
      rw [this]; rfl
    · by_cases h2 : rd xs j ≥ ev
      · refine ev_end fun k => ?_
        simp only [virgationref11_Read.l0]
        rw [if_pos (by omega), if_pos (by omega), if_pos (by omega), if_neg h1, if_pos h2]
        have : evBad ev xs[j] = true := by rw [← rd_at hlt]; simp [evBad]; omega
        rw [this]; rfl
      · have : evBad ev xs[j] = false := by rw [← rd_at hlt]; simp [evBad]; omega
        rw [this, Bool.false_or] at hall ⊢
        refine ev_next (ih (j + 1) (by omega) (by omega) hall) fun k => ?_
        simp only [virgationref11_Read.l0]
        rw [if_pos (by omega), if_pos (by omega), if_pos (by omega), if_neg h1, if_neg h2, wrap_succ (by omega) (by omega)]
        rfl

theorem read_l1 (xs : List Int) (ev st : Int) (l : List (List Int)) (hx : xs.length ≤ 9223372036854775807) (hs : specOk ev st l = true) (he : xs.any (evBad ev) = false) (d : Nat) :
    ∀ (j : Nat) (q : Int), xs.length - j = d → j ≤ xs.length → 0 ≤ q → q < l.length → Ev (fun k => virgationref11_Read.l1 k xs q xs (xs.length : Int) (j : Int) ev st l) ((readFrom l q j (xs.drop j)).1, ((readFrom l q j (xs.drop j)).2 : Int), 0) := by
  induction d with
  | zero =>
    intro j q hd hj h0 h1
    rw [readFrom_end l q j xs (by omega)]
    refine ev_end fun k => ?_
    simp only [virgationref11_Read.l1]
    rw [if_neg (by omega), show j = xs.length from by omega]
  | succ d ih =>
    intro j q hd hj h0 h1
    have hlt : j < xs.length := by omega
    have hxr : 0 ≤ rd xs j ∧ rd xs j < ev := by
      have h2 := List.any_eq_false.1 he (rd xs j) (rd_mem hlt)
      simp only [evBad, Bool.or_eq_true, decide_eq_true_eq] at h2
      omega
    have hlen := (specOk_row hs h0 h1).1
    have hsr := stepAt_range hs h0 h1 hxr.1 hxr.2
    rw [readFrom_step l q j xs hlt]
    by_cases h2 : stepAt l q (rd xs j) < 0
    · rw [if_pos h2]
      refine ev_end fun k => ?_
      simp only [virgationref11_Read.l1]
      rw [if_pos (by omega), if_pos (by omega), if_pos (by omega), if_pos h0, if_pos h1, if_pos hxr.1, if_pos (by omega), if_pos (by unfold stepAt at h2 hsr; omega)]
    · rw [if_neg h2]
      refine ev_next (ih (j + 1) _ (by omega) (by omega) (by omega) hsr.2) fun k => ?_
      simp only [virgationref11_Read.l1]
      rw [if_pos (by omega), if_pos (by omega), if_pos (by omega), if_pos h0, if_pos h1, if_pos hxr.1, if_pos (by omega), if_neg (by unfold stepAt at h2 hsr; omega), wrap_succ (by omega) (by omega)]
      rfl

theorem refRead_ev (ev st : Int) (l : List (List Int)) (xs : List Int) (hl : lens l) (hx : xs.length ≤ 9223372036854775807) : Ev (fun k => virgationref11_Read.f k ev st l xs) (readVal ev st l xs) := by
  unfold virgationref11_Read.f
  refine Ev.bind (is_ev ev st l hl) ?_
  unfold readVal
  cases h : specOk ev st l with
  | false =>
    rw [if_pos rfl]
    exact Ev.congr (fun k => by rw [if_neg (by simp)]) (Ev.now _)
  | true =>
    rw [if_neg (by simp)]
    by_cases hc : xs.length > 4096
    · rw [if_pos hc]
      exact Ev.congr (fun k => by rw [if_pos rfl, if_pos (by omega)]) (Ev.now _)
    · rw [if_neg hc]
      have hh := headOk_true (specOk_head h)
      refine Ev.congr (f := fun k => virgationref11_Read.l0 k xs xs (xs.length : Int) 0 ev st l) (fun k => by rw [if_pos rfl, if_neg (by omega)]) ?_
      have := read_l0 xs xs ev st l hx ((readFrom l st 0 xs).1, ((readFrom l st 0 xs).2 : Int), 0) (by
        cases he : xs.any (evBad ev) with
        | true => exact .inr rfl
        | false =>
          have h2 := read_l1 xs ev st l hx h he _ 0 st rfl (by omega) (by omega) (by omega)
          rw [List.drop_zero] at h2
          exact .inl h2) _ 0 rfl (by omega) (by rw [List.drop_zero]; exact id)
      rw [List.drop_zero] at this
      exact this

/-! ### the law -/
set_option maxHeartbeats 1000000 in
theorem specRead_calls (ev st : Int) (A : Option Addr) (c : Nat) (l : List (List Int)) (A1 : Option Addr) (c1 : Nat) (xs : List Int) (w : World) (hr : Kd.C (Kd.slice 3 (Kd.int .i64)) w A l.length l) (hc : l.length ≤ c) (hr1 : Kd.C (Kd.int .i64) w A1 xs.length xs) (hc1 : xs.length ≤ c1) :
    Calls Try.prog 3 #[.agg #[.int .i64 ev, .int .i64 st, .slice A l.length c], .slice A1 xs.length c1] w fun e w' => e = .returned (.bool true) ∧ Below w.heap.size w w' := by
  obtain ⟨k, hk⟩ := (refRead_ev ev st l xs (lens_of_C hr) hr1.2.1).rounds
  have HP := Aside0.mk fun W (hW : Below w.heap.size w W) => read_calls ev st A c l A1 c1 xs W (Kd.C_below hr hW) (Kd.C_below hr1 hW)
  generalize readVal ev st l xs = r at HP hk
  obtain ⟨r1, r2, r3⟩ := r
  have HQ := Aside0.mk fun W (hW : Below w.heap.size w W) => virgationref11_Read.calls k ev st A c l A1 c1 xs _ _ _ W (Kd.C_below hr hW) hc (Kd.C_below hr1 hW) hc1 hk
  clear hk hr hr1 hc hc1
  have d1 : (r1 == r1) = true := beq_self_eq_true _
  have d2 : (r2 == r2) = true := beq_self_eq_true _
  have d3 : (r3 == r3) = true := beq_self_eq_true _
  go_enter Try.func3, Try.ntmps3
  go_wp2_with fail
  refine (HP.out _ (below_alloc (Below.refl _ _) _)).mono ?_
  rintro e w1 ⟨rfl, hb⟩
  have HB := Aside0.mk (below_then (below_alloc (Below.refl _ _) _) (by simp) hb)
  have HX := Aside0.mk (blk_below (blk_new _ _) hb)
  clear hb HP
  unfold tri
  have hz0 : w1.cell? ⟨w.heap.size, 0, none⟩ = some (.int .i64 ev) := (blk_cell HX.out 0).trans rfl
  have hz1 : w1.cell? ⟨w.heap.size, 1, none⟩ = some (.int .i64 st) := (blk_cell HX.out 1).trans rfl
  have hz2 : w1.cell? ⟨w.heap.size, 2, none⟩ = some (.slice A l.length c) := (blk_cell HX.out 2).trans rfl
  go_wp2_with fail
  refine (HQ.out _ HB.out).mono ?_
  rintro e w2 ⟨rfl, hb⟩
  have HB2 := Aside0.mk (below_then HB.out (HB.out).size hb)
  clear hb HQ HB HX
  go_wp2_with fail
  refine (alive_calls _).mono ?_
  rintro e w3 ⟨rfl, hb⟩
  have HB3 := Aside0.mk (below_then HB2.out (HB2.out).size hb)
  clear hb HB2
  go_wp2
  go_ret
  exact ⟨rfl, HB3.out⟩
end Go.Proofs.Ytmphigeefppfpaa.H
