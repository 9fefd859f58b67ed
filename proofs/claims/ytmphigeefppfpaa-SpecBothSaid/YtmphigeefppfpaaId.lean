/- The row SpecTwice. -/
import Derived.Test.YtmphigeefppfpaaIc
namespace Go.Proofs.Ytmphigeefppfpaa.H
open Go.RowKit Go.Proofs.YtmphigeefppfpaaW.PrintWords Go.Proofs.YtmphigeefppfpaaW.PrintLast Go.Proofs.YtmphigeefppfpaaW.PrintMore
set_option linter.unusedVariables false

/-- Boxes of specifications, and rows that can be read. -/
structure Bx (w W : World) (bs : List (Nat × Array Value)) (cs : List (Option Addr × List (List Int))) : Prop where
  hb : Below w.heap.size w W
  hx : ∀ p ∈ bs, W.heap[p.1]? = some (.cells p.2 24 (0, 0))
  hc : ∀ p ∈ cs, Kd.C (Kd.slice 3 (Kd.int .i64)) W p.1 p.2.length p.2
section
variable {w W W1 : World} {bs : List (Nat × Array Value)} {cs : List (Option Addr × List (List Int))}
theorem Bx.start (w : World) : Bx w w [] [] := ⟨Below.refl _ _, fun p hp => absurd hp List.not_mem_nil, fun p hp => absurd hp List.not_mem_nil⟩
theorem Bx.below (h : Bx w W bs cs) (hb : Below W.heap.size W W1) : Bx w W1 bs cs := ⟨below_then h.hb h.hb.size hb, fun p hp => blk_below (h.hx p hp) hb, fun p hp => Kd.C_below (h.hc p hp) hb⟩
theorem Bx.alloc (h : Bx w W bs cs) (v : Array Value) : Bx w (W.alloc (.cells v 24)) ((W.heap.size, v) :: bs) cs := by
  have h1 := h.below (below_alloc (Below.refl W.heap.size W) (.cells v 24))
  refine ⟨h1.hb, fun p hp => ?_, h1.hc⟩
  rcases List.mem_cons.1 hp with rfl | hp
  · exact blk_new W _
  · exact h1.hx p hp
theorem Bx.rows (h : Bx w W bs cs) {A : Option Addr} {l : List (List Int)} (hc : Kd.C (Kd.slice 3 (Kd.int .i64)) W A l.length l) : Bx w W bs ((A, l) :: cs) :=
  ⟨h.hb, h.hx, fun p hp => by
    rcases List.mem_cons.1 hp with rfl | hp
    · exact hc
    · exact h.hc p hp⟩
theorem Bx.cell (h : Bx w W bs cs) {b : Nat} {x y z : Value} (hp : (b, #[x, y, z]) ∈ bs) : W.cell? ⟨b, 0, none⟩ = some x ∧ W.cell? ⟨b, 1, none⟩ = some y ∧ W.cell? ⟨b, 2, none⟩ = some z :=
  ⟨(blk_cell (h.hx _ hp) 0).trans rfl, (blk_cell (h.hx _ hp) 1).trans rfl, (blk_cell (h.hx _ hp) 2).trans rfl⟩
theorem mem1 {α : Type} {a b : α} {l : List α} : b ∈ a :: b :: l := List.mem_cons_of_mem _ List.mem_cons_self
theorem mem2 {α : Type} {a a' b : α} {l : List α} : b ∈ a :: a' :: b :: l := List.mem_cons_of_mem _ mem1
theorem mem3 {α : Type} {a a' a2 b : α} {l : List α} : b ∈ a :: a' :: a2 :: b :: l := List.mem_cons_of_mem _ mem2
/-- A specification comes back. -/
theorem Bx.spec {err n st : Int} {rows : List (List Int)} {E : Ending} (h : Bx w W bs cs) (he : SpecEnd err n st rows W E W1) : ∃ (A : Option Addr) (c : Nat), rows.length ≤ c ∧ E = .returned (.tuple #[.agg #[.int .i64 n, .int .i64 st, .slice A rows.length c], .int .i64 err]) ∧ Bx w W1 bs ((A, rows) :: cs) := by
  obtain ⟨A, c, So, rfl, hR, hb⟩ := he
  have h1 := Kd.R_reads' hR
  exact ⟨A, c, h1.2.1, rfl, (h.below hb).rows h1.2.2⟩
end

/-! ### reading by two tables of one language -/
theorem read_lq {n : Nat} {l l' : List (List Int)} : ∀ (xs : List Int) (q q' : Int) (i : Nat), Lq n (stepS l) (stepS l') q q' → 0 ≤ q → 0 ≤ q' → (∀ x ∈ xs, evBad n x = false) → (readFrom l q i xs).2 = (readFrom l' q' i xs).2 ∧ ((readFrom l q i xs).1 < 0 ↔ (readFrom l' q' i xs).1 < 0)
  | [], q, q', i, h, h0, h1, _ => ⟨rfl, by simp only [readFrom]; omega⟩
  | x :: xs, q, q', i, h, h0, h1, hx => by
    have hb := hx x List.mem_cons_self
    simp only [evBad, Bool.or_eq_false_iff, decide_eq_false_iff_not] at hb
    obtain ⟨e, rfl⟩ : ∃ e : Nat, x = (e : Int) := ⟨x.toNat, by omega⟩
    have he : e < n := by omega
    have hok := h.ok he
    simp only [stepS] at hok
    simp only [readFrom]
    by_cases hn : stepAt l q e < 0
    · have hn' : stepAt l' q' e < 0 := by
        rw [decide_eq_false (by omega)] at hok
        have := of_decide_eq_false hok.symm
        omega
      rw [if_pos hn, if_pos hn']
      exact ⟨rfl, Iff.rfl⟩
    · have hn' : ¬ stepAt l' q' e < 0 := by
        rw [decide_eq_true (by omega)] at hok
        have := of_decide_eq_true hok.symm
        omega
      rw [if_neg hn, if_neg hn']
      exact read_lq xs _ _ (i + 1) (h.next he (decide_eq_true (by omega))) (by omega) (by omega) (fun y hy => hx y (List.mem_cons_of_mem _ hy))
theorem isLeast_lq {n : Nat} {l : List (List Int)} {st : Int} {r : List (List Int)} (h : IsLeast n l st r) : Lq n (stepS r) (stepS l) 0 st := by
  obtain ⟨s, a, D, N, rfl, f, _, _, _, hl⟩ := h
  obtain ⟨_, ⟨q, hq⟩, _⟩ := bfs_done f
  exact (table_lq (i := 0) f (by rw [hq]; rfl)).trans hl
theorem least_ok {ev st : Int} {l : List (List Int)} (hs : specOk ev st l = true) : specOk ev 0 (leastRows ev st l) = true := by
  rcases least_good ev st l with ⟨_, h⟩ | ⟨h, _⟩
  · simpa [lEv, lRows, hs] using h
  · simp [lErr, hs] at h
theorem least_twice {ev st : Int} {l : List (List Int)} (hs : specOk ev st l = true) : leastRows ev 0 (leastRows ev st l) = leastRows ev st l :=
  (leastRows_is (least_ok hs)).1.unique (leastRows_is hs).1 (isLeast_lq (leastRows_is hs).1)
/-- Two tables of one language are read alike. -/
theorem readVal_lq {ev st st' : Int} {l l' : List (List Int)} (hs : specOk ev st l = true) (hs' : specOk ev st' l' = true) (h : Lq ev.toNat (stepS l) (stepS l') st st') (xs : List Int) :
    (readVal ev st l xs).2.2 = (readVal ev st' l' xs).2.2 ∧ (readVal ev st l xs).2.1 = (readVal ev st' l' xs).2.1 ∧ ((readVal ev st l xs).1 < 0 ↔ (readVal ev st' l' xs).1 < 0) := by
  obtain ⟨_, h1, h2, _⟩ := spec_table hs
  obtain ⟨_, h1', _⟩ := spec_table hs'
  unfold readVal
  rw [hs, hs', if_neg (by simp)]
  by_cases h4 : xs.length > 4096
  · simp only [if_pos h4]; exact ⟨rfl, rfl, Iff.rfl⟩
  · simp only [if_neg h4]
    cases hany : xs.any (evBad ev) with
    | true => exact ⟨rfl, rfl, Iff.rfl⟩
    | false =>
      have := read_lq xs st st' 0 h h1.1 h1'.1 (fun x hx => by
        rw [show ((ev.toNat : Nat) : Int) = ev from by omega]
        simp only [List.any_eq_false, Bool.not_eq_true] at hany
        exact hany x hx)
      exact ⟨rfl, congrArg Int.ofNat this.1, this.2⟩

set_option maxHeartbeats 4000000 in
set_option maxRecDepth 100000 in
theorem specTwice_calls (ev st : Int) (A : Option Addr) (c : Nat) (l : List (List Int)) (A1 : Option Addr) (c1 : Nat) (xs : List Int) (w : World) (hr : Kd.C (Kd.slice 3 (Kd.int .i64)) w A l.length l) (hc : l.length ≤ c) (hr1 : Kd.C (Kd.int .i64) w A1 xs.length xs) (hc1 : xs.length ≤ c1) :
    Calls Try.prog 8 #[.agg #[.int .i64 ev, .int .i64 st, .slice A l.length c], .slice A1 xs.length c1] w fun e w' => e = .returned (.bool true) ∧ Below w.heap.size w w' := by
  have H1 := Aside0.mk fun W (hW : Below w.heap.size w W) => sLeast_calls ev st A c l W (Kd.C_below hr hW)
  have HR := Aside0.mk hr
  have HX := Aside0.mk hr1
  clear hr hc hr1 hc1
  go_enter Try.func8, Try.ntmps8
  go_upto_region 1 with (fail)
  have HS := Aside0.mk ((Bx.start w).alloc #[.int .i64 ev, .int .i64 st, .slice A l.length c])
  generalize (w.alloc (.cells #[.int .i64 ev, .int .i64 st, .slice A l.length c] 24)) = w0 at *
  obtain ⟨hc0, hc1, hc2⟩ := (HS.out).cell (List.mem_cons_self)
  cases hs : specOk ev st l with
  | false =>
    rw [show LeastsEnd ev st l = SpecEnd 11 0 0 [] from by simp [LeastsEnd, hs]] at H1
    clear hs
    go_wp2_with fail
    refine (H1.out _ (HS.out).hb).mono ?_
    rintro E w1 hE
    obtain ⟨A2, c2, hc22, rfl, HS1⟩ := (HS.out).spec hE
    clear hE HS H1 hc0 hc1 hc2
    go_upto_region 2 with (fail)
    have HS2 := HS1.alloc #[.int .i64 0, .int .i64 0, .slice A2 ([] : List (List Int)).length c2]
    go_wp2_with fail
    refine (alive_calls _).mono ?_
    rintro E w2 ⟨rfl, hb⟩
    have HS3 := HS2.below hb
    go_wp2
    go_ret
    exact ⟨rfl, HS3.hb⟩
  | true =>
    rw [show LeastsEnd ev st l = SpecEnd 0 ev 0 (leastRows ev st l) from by simp [LeastsEnd, hs]] at H1
    have hs2 := least_ok hs
    have HLL := (leastRows_is hs).2
    have H2 := Aside0.mk fun W A2 c2 (hC : Kd.C (Kd.slice 3 (Kd.int .i64)) W A2 (leastRows ev st l).length (leastRows ev st l)) => sLeast_calls ev 0 A2 c2 (leastRows ev st l) W hC
    rw [show LeastsEnd ev 0 (leastRows ev st l) = SpecEnd 0 ev 0 (leastRows ev st l) from by rw [← least_twice hs]; simp only [LeastsEnd, least_twice hs, hs2, if_true]] at H2
    have HRD := readVal_lq hs hs2 (isLeast_lq (leastRows_is hs).1).symm xs
    have H3 := Aside0.mk fun W (hW : Below w.heap.size w W) => read_calls ev st A c l A1 c1 xs W (Kd.C_below HR.out hW) (Kd.C_below HX.out hW)
    have H4 := Aside0.mk fun W A2 c2 (hW : Below w.heap.size w W) (hC : Kd.C (Kd.slice 3 (Kd.int .i64)) W A2 (leastRows ev st l).length (leastRows ev st l)) => read_calls ev 0 A2 c2 (leastRows ev st l) A1 c1 xs W hC (Kd.C_below HX.out hW)
    have H5 := Aside0.mk fun W A2 c2 A3 c3 (hC : Kd.C (Kd.slice 3 (Kd.int .i64)) W A2 (leastRows ev st l).length (leastRows ev st l)) (hC3 : Kd.C (Kd.slice 3 (Kd.int .i64)) W A3 (leastRows ev st l).length (leastRows ev st l)) => same_calls ev 0 A2 c2 (leastRows ev st l) ev 0 A3 c3 (leastRows ev st l) W hC hC3
    rw [sameVal_self, hs2] at H5
    unfold SameEnd at H5
    unfold tri at H3 H4
    generalize leastRows ev st l = rows at *
    generalize readVal ev st l xs = R1 at *
    generalize readVal ev 0 rows xs = R2 at *
    obtain ⟨p1, n1, g1⟩ := R1
    obtain ⟨p2, n2, g2⟩ := R2
    simp only at HRD H3 H4
    obtain ⟨rfl, rfl, hpq⟩ := HRD
    have hd1 : (g1 == g1) = true := beq_self_eq_true _
    have hd2 : (n1 == n1) = true := beq_self_eq_true _
    have hd3 : (decide (p1 < 0) == decide (p2 < 0)) = true := by rw [decide_eq_decide.2 hpq]; exact beq_self_eq_true _
    have hd4 : rows.length ≤ l.length := HLL
    clear hs hs2 hpq
    go_wp2_with fail
    refine (H1.out _ (HS.out).hb).mono ?_
    rintro E w1 hE
    obtain ⟨A2, c2, hc22, rfl, HS1⟩ := (HS.out).spec hE
    clear hE HS H1 hc0 hc1 hc2
    go_upto_region 4 with (fail)
    have HS2 := Aside0.mk (HS1.alloc #[.int .i64 ev, .int .i64 0, .slice A2 rows.length c2])
    clear HS1
    generalize (w1.alloc (.cells #[.int .i64 ev, .int .i64 0, .slice A2 rows.length c2] 24)) = w2 at *
    generalize w1.heap.size = b1 at *
    obtain ⟨hc0, hc1, hc2⟩ := (HS2.out).cell (b := b1) List.mem_cons_self
    go_wp2_with fail
    refine (H2.out _ _ _ ((HS2.out).hc _ (List.mem_cons_self))).mono ?_
    rintro E w3 hE
    obtain ⟨A3, c3, hc33, rfl, HS3⟩ := (HS2.out).spec hE
    clear hE HS2 H2 hc0 hc1 hc2
    go_upto_region 5 with (fail)
    have HS4 := Aside0.mk (HS3.alloc #[.int .i64 ev, .int .i64 0, .slice A3 rows.length c3])
    clear HS3
    generalize (w3.alloc (.cells #[.int .i64 ev, .int .i64 0, .slice A3 rows.length c3] 24)) = w4 at *
    generalize w3.heap.size = b2 at *
    obtain ⟨hc0, hc1, hc2⟩ := (HS4.out).cell (b := w.heap.size) mem2
    go_wp2_with fail
    refine (H3.out _ (HS4.out).hb).mono ?_
    rintro E w5 ⟨rfl, hb⟩
    have HS5 := Aside0.mk ((HS4.out).below hb)
    clear hb HS4 H3 hc0 hc1 hc2
    obtain ⟨hc0, hc1, hc2⟩ := (HS5.out).cell (b := b1) mem1
    go_wp2_with fail
    refine (H4.out _ A2 c2 (HS5.out).hb ((HS5.out).hc (A2, rows) mem1)).mono ?_
    rintro E w6 ⟨rfl, hb⟩
    have HS6 := Aside0.mk ((HS5.out).below hb)
    clear hb HS5 H4 hc0 hc1 hc2
    obtain ⟨hc0, hc1, hc2⟩ := (HS6.out).cell (b := b1) mem1
    obtain ⟨he0, he1, he2⟩ := (HS6.out).cell (b := b2) List.mem_cons_self
    go_wp2_with fail
    refine (H5.out _ A2 c2 A3 c3 ((HS6.out).hc (A2, rows) mem1) ((HS6.out).hc (A3, rows) List.mem_cons_self)).mono ?_
    rintro E w7 ⟨rfl, hb⟩
    have HS7 := Aside0.mk ((HS6.out).below hb)
    clear hb HS6 H5 hc0 hc1 hc2 he0 he1 he2
    obtain ⟨hc0, hc1, hc2⟩ := (HS7.out).cell (b := b1) mem1
    obtain ⟨he0, he1, he2⟩ := (HS7.out).cell (b := w.heap.size) mem2
    go_wp2_with fail
    refine (alive_calls _).mono ?_
    rintro E w8 ⟨rfl, hb⟩
    have HS8 := (HS7.out).below hb
    go_wp2
    go_ret
    exact ⟨rfl, HS8.hb⟩
end Go.Proofs.Ytmphigeefppfpaa.H
