/- The row SpecLeast. -/
import Derived.Test.YtmphigeefppfpaaIb
import Derived.Test.YtmphigeefppfpaaQ5
namespace Go.Proofs.Ytmphigeefppfpaa.H
open Go.RowKit Go.Proofs.YtmphigeefppfpaaW.PrintWords Go.Proofs.YtmphigeefppfpaaW.PrintLast Go.Proofs.YtmphigeefppfpaaW.PrintMore
set_option linter.unusedVariables false

/-- An answer as the laws know it: a specification, or an error and nothing. -/
def GoodAns (err n st : Int) (rows : List (List Int)) : Prop := (err = 0 ∧ specOk n st rows = true) ∨ (err ≠ 0 ∧ n = 0 ∧ st = 0 ∧ rows = [])
theorem is_true (err n st : Int) (rows : List (List Int)) (A : Option Addr) (c : Nat) (A2 : Option Addr) (c2 : Nat) (w : World) (hr : Kd.C (Kd.slice 3 (Kd.int .i64)) w A rows.length rows) (hc : rows.length ≤ c) (hr2 : Kd.C (Kd.slice 3 (Kd.int .i64)) w A2 rows.length rows) (hc2 : rows.length ≤ c2) (h : GoodAns err n st rows) :
    Calls Try.prog 28 #[.agg #[.int .i64 n, .int .i64 st, .slice A rows.length c], .int .i64 err, .agg #[.int .i64 n, .int .i64 st, .slice A2 rows.length c2], .int .i64 err] w fun e w' => e = .returned (.bool true) ∧ Below w.heap.size w w' := by
  obtain ⟨k, hk⟩ := (rsame_ev n st n st rows rows (lens_of_C hr) (lens_of_C hr2)).rounds
  refine Q.virgationlaw11_is.calls k n st A c rows err n st A2 c2 rows err true w hr hc hr2 hc2 ?_
  unfold Q.virgationlaw11_is.f
  rw [if_pos rfl]
  rcases h with ⟨h0, hs⟩ | ⟨h0, rfl, rfl, rfl⟩
  · rw [if_pos h0, hk]
    have : sameVal n st rows n st rows = true := by simp [sameVal, hs]
    rw [this]
    rfl
  · rw [if_neg h0]
    simp [wrap64]
/-- The answer of Least, in three. -/
def lErr (ev st : Int) (l : List (List Int)) : Int := if specOk ev st l then 0 else 11
def lEv (ev st : Int) (l : List (List Int)) : Int := if specOk ev st l then ev else 0
noncomputable def lRows (ev st : Int) (l : List (List Int)) : List (List Int) := if specOk ev st l then leastRows ev st l else []
theorem least_end (ev st : Int) (l : List (List Int)) : LeastsEnd ev st l = SpecEnd (lErr ev st l) (lEv ev st l) 0 (lRows ev st l) := by
  unfold LeastsEnd lErr lEv lRows
  split <;> rfl
theorem isLeast_ok {n : Nat} {l : List (List Int)} {st : Int} {r : List (List Int)} (h : IsLeast n l st r) : tableOk n r ∧ 1 ≤ r.length := by
  obtain ⟨s, a, D, N, rfl, f, _⟩ := h
  exact table_ok f
theorem specOk_of {n : Nat} {r : List (List Int)} (h : tableOk n r) (h1 : 1 ≤ r.length) (h2 : r.length ≤ 64) (hn : n ≤ 16) : specOk (n : Int) 0 r = true := by
  simp only [specOk, headOk, rowOk, Bool.and_eq_true, List.all_eq_true, decide_eq_true_eq]
  exact ⟨by omega, fun row hm => ⟨by have := (h row hm).1; omega, (h row hm).2⟩⟩
theorem least_good (ev st : Int) (l : List (List Int)) : GoodAns (lErr ev st l) (lEv ev st l) 0 (lRows ev st l) := by
  unfold lErr lEv lRows
  cases hs : specOk ev st l with
  | false => exact .inr ⟨by decide, rfl, rfl, rfl⟩
  | true =>
    refine .inl ⟨rfl, ?_⟩
    obtain ⟨h1, h2⟩ := leastRows_is hs
    obtain ⟨h3, h4⟩ := isLeast_ok h1
    obtain ⟨_, _, he0, he1, _, hl⟩ := spec_table hs
    have := specOk_of h3 h4 (by omega) (by omega)
    rwa [show ((ev.toNat : Nat) : Int) = ev from by omega] at this
/-- Two boxes of specifications. -/
structure Box2 (w W : World) (b1 b2 : Nat) (v1 v2 : Array Value) : Prop where
  hb : Below w.heap.size w W
  h1 : W.heap[b1]? = some (.cells v1 24 (0, 0))
  h2 : W.heap[b2]? = some (.cells v2 24 (0, 0))
theorem Box2.below {w W W1 : World} {b1 b2 : Nat} {v1 v2 : Array Value} (h : Box2 w W b1 b2 v1 v2) (hb : Below W.heap.size W W1) : Box2 w W1 b1 b2 v1 v2 := ⟨below_then h.hb h.hb.size hb, blk_below h.h1 hb, blk_below h.h2 hb⟩
theorem Box2.cells {w W : World} {b1 b2 : Nat} {a b c d e f : Value} (h : Box2 w W b1 b2 #[a, b, c] #[d, e, f]) : (W.cell? ⟨b1, 0, none⟩ = some a ∧ W.cell? ⟨b1, 1, none⟩ = some b ∧ W.cell? ⟨b1, 2, none⟩ = some c) ∧ (W.cell? ⟨b2, 0, none⟩ = some d ∧ W.cell? ⟨b2, 1, none⟩ = some e ∧ W.cell? ⟨b2, 2, none⟩ = some f) :=
  ⟨⟨(blk_cell h.h1 0).trans rfl, (blk_cell h.h1 1).trans rfl, (blk_cell h.h1 2).trans rfl⟩, (blk_cell h.h2 0).trans rfl, (blk_cell h.h2 1).trans rfl, (blk_cell h.h2 2).trans rfl⟩

set_option maxHeartbeats 2000000 in
theorem specLeast_calls (ev st : Int) (A : Option Addr) (c : Nat) (l : List (List Int)) (w : World) (hr : Kd.C (Kd.slice 3 (Kd.int .i64)) w A l.length l) (hc : l.length ≤ c) :
    Calls Try.prog 7 #[.agg #[.int .i64 ev, .int .i64 st, .slice A l.length c]] w fun e w' => e = .returned (.bool true) ∧ Below w.heap.size w w' := by
  have H1 := Aside0.mk fun W (hW : Below w.heap.size w W) => sLeast_calls ev st A c l W (Kd.C_below hr hW)
  have H2 := Aside0.mk fun W (hW : Below w.heap.size w W) => rLeast_calls ev st A c l W (Kd.C_below hr hW) hc
  rw [least_end] at H1 H2
  unfold SpecEnd at H1 H2
  have HG := Aside0.mk (least_good ev st l)
  generalize lErr ev st l = err at *
  generalize lEv ev st l = n at *
  generalize lRows ev st l = rows at *
  clear hr hc
  go_enter Try.func7, Try.ntmps7
  go_upto_region 1 with (fail)
  have HB := Aside0.mk (below_alloc (Below.refl w.heap.size w) (.cells #[.int .i64 ev, .int .i64 st, .slice A l.length c] 24))
  have HX := Aside0.mk (blk_new w (.cells #[.int .i64 ev, .int .i64 st, .slice A l.length c] 24))
  generalize (w.alloc (.cells #[.int .i64 ev, .int .i64 st, .slice A l.length c] 24)) = w0 at *
  have hc0 : w0.cell? ⟨w.heap.size, 0, none⟩ = some (.int .i64 ev) := (blk_cell HX.out 0).trans rfl
  have hc1 : w0.cell? ⟨w.heap.size, 1, none⟩ = some (.int .i64 st) := (blk_cell HX.out 1).trans rfl
  have hc2 : w0.cell? ⟨w.heap.size, 2, none⟩ = some (.slice A l.length c) := (blk_cell HX.out 2).trans rfl
  go_wp2_with fail
  refine (H1.out _ HB.out).mono ?_
  rintro e w1 ⟨A1, c1, S1, rfl, ho1, hb1⟩
  have HO1 := Aside0.mk (Kd.R_reads' ho1)
  have HB1 := Aside0.mk (below_then HB.out (HB.out).size hb1)
  have HX1 := Aside0.mk (blk_below HX.out hb1)
  clear ho1 hb1 HB HX hc0 hc1 hc2 H1
  go_upto_region 2 with (fail)
  have HB2 := Aside0.mk (below_alloc HB1.out (.cells #[.int .i64 n, .int .i64 0, .slice A1 rows.length c1] 24))
  have HX2 := Aside0.mk (blk_alloc HX1.out (.cells #[.int .i64 n, .int .i64 0, .slice A1 rows.length c1] 24))
  have HY2 := Aside0.mk (blk_new w1 (.cells #[.int .i64 n, .int .i64 0, .slice A1 rows.length c1] 24))
  have HO2 := Aside0.mk (Kd.C_below (HO1.out).2.2 (below_alloc (Below.refl w1.heap.size w1) (.cells #[.int .i64 n, .int .i64 0, .slice A1 rows.length c1] 24)))
  have hlc1 := (HO1.out).2.1
  clear HB1 HX1 HO1
  generalize (w1.alloc (.cells #[.int .i64 n, .int .i64 0, .slice A1 rows.length c1] 24)) = w2 at *
  generalize w1.heap.size = b1 at *
  have hc0 : w2.cell? ⟨w.heap.size, 0, none⟩ = some (.int .i64 ev) := (blk_cell HX2.out 0).trans rfl
  have hc1 : w2.cell? ⟨w.heap.size, 1, none⟩ = some (.int .i64 st) := (blk_cell HX2.out 1).trans rfl
  have hc2 : w2.cell? ⟨w.heap.size, 2, none⟩ = some (.slice A l.length c) := (blk_cell HX2.out 2).trans rfl
  go_wp2_with fail
  refine (H2.out _ HB2.out).mono ?_
  rintro e w3 ⟨A2, c2, S2, rfl, ho2, hb2⟩
  have HO3 := Aside0.mk (Kd.R_reads' ho2)
  have HO13 := Aside0.mk (Kd.C_below HO2.out hb2)
  have HB3 := Aside0.mk (below_then HB2.out (HB2.out).size hb2)
  have HY3 := Aside0.mk (blk_below HY2.out hb2)
  clear ho2 hb2 HB2 HX2 HY2 HO2 hc0 hc1 hc2 H2
  go_upto_region 3 with (fail)
  have HS := Box2.mk (w := w) (below_alloc HB3.out (.cells #[.int .i64 n, .int .i64 0, .slice A2 rows.length c2] 24)) (blk_alloc HY3.out (.cells #[.int .i64 n, .int .i64 0, .slice A2 rows.length c2] 24)) (blk_new w3 (.cells #[.int .i64 n, .int .i64 0, .slice A2 rows.length c2] 24))
  have H3 := Aside0.mk (is_true err n 0 rows A1 c1 A2 c2 _ (Kd.C_below HO13.out (below_alloc (Below.refl _ _) (.cells #[.int .i64 n, .int .i64 0, .slice A2 rows.length c2] 24))) hlc1 (Kd.C_below (HO3.out).2.2 (below_alloc (Below.refl _ _) (.cells #[.int .i64 n, .int .i64 0, .slice A2 rows.length c2] 24))) (HO3.out).2.1 HG.out)
  clear HO3 HO13 HB3 HY3 HG hlc1
  generalize (w3.alloc (.cells #[.int .i64 n, .int .i64 0, .slice A2 rows.length c2] 24)) = w4 at *
  generalize w3.heap.size = b2 at *
  obtain ⟨⟨hc0, hc1, hc2⟩, hd0, hd1, hd2⟩ := HS.cells
  go_wp2_with fail
  refine H3.out.mono ?_
  rintro e w5 ⟨rfl, hb⟩
  have HS1 := HS.below hb
  clear HS hb hc0 hc1 hc2 hd0 hd1 hd2
  go_wp2_with fail
  refine (alive_calls _).mono ?_
  rintro e w6 ⟨rfl, hb⟩
  have HS2 := HS1.below hb
  clear HS1 hb
  go_wp2
  go_ret
  exact ⟨rfl, HS2.hb⟩
end Go.Proofs.Ytmphigeefppfpaa.H
