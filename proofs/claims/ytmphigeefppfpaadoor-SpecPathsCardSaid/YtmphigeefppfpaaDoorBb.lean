/- tree.measure, Size, fits and Check at a tree that is not too large. -/
import Derived.Test.YtmphigeefppfpaaDoorBa
namespace Go.Proofs.YtmphigeefppfpaaDoor.H
open Go.RowKit Go.Proofs.YtmphigeefppfpaaDoorW.PrintWords Go.Proofs.YtmphigeefppfpaaDoorW.PrintLast Go.Proofs.YtmphigeefppfpaaDoorW.PrintMore
open Go.Proofs.YtmphigeefppfpaaDoor.PSpecPaths (S28 k28 rd_T28 z28 at_T28)
attribute [local go_sem] max2_int min2_int max_two min_two max_three min_three max_four min_four
set_option linter.unusedVariables false

theorem gtrans {W W1 W2 : World} {row : Option Nat} (h : W.grownBy W1 row) (h2 : W1.grownBy W2 row) : W.grownBy W2 row := ⟨h2.os.trans h.os, h2.tape.trans h.tape, h2.output.trans h.output, Nat.le_trans h.size h2.size, fun i hi hne => (h2.block i (Nat.lt_of_lt_of_le hi h.size) hne).trans (h.block i hi hne)⟩
theorem depthL_snoc (a : List S28) (x : S28) : depthL (a ++ [x]) = max (depthL a) (depth x) := by
  induction a with
  | nil => simp [depthL]
  | cons y r ih => rw [List.cons_append, depthL, depthL, ih]; omega
theorem nodesL_snoc (a : List S28) (x : S28) : nodesL (a ++ [x]) = nodesL a + nodes x := by
  induction a with
  | nil => simp [nodesL]
  | cons y r ih => rw [List.cons_append, nodesL, nodesL, ih]; omega
theorem takeT {l : List S28} {j : Nat} (h : j < l.length) : l.take (j + 1) = l.take j ++ [l[j]] := by rw [List.take_add_one, List.getElem?_eq_getElem h]; rfl
theorem nodesL_take (l : List S28) (j : Nat) : nodesL (l.take j) ≤ nodesL l := by
  induction l generalizing j with
  | nil => simp
  | cons a r ih =>
    cases j with
    | zero => simp [nodesL]
    | succ j => rw [List.take_succ_cons, nodesL, nodesL]; have := ih j; omega
theorem depthL_le (l : List S28) : depthL l ≤ nodesL l := by
  induction l with
  | nil => simp [depthL]
  | cons a r ih => rw [depthL, nodesL]; have := depth_le a; omega
def MeasEnd (t : S28) (p : Nat) (left : Int) (W : World) (E : Ending) (W' : World) : Prop := E = .returned (.int .i64 (depth t : Int)) ∧ W'.heap[p]? = some (.cells #[.int .i64 (left - nodes t)] 3 (0, 0)) ∧ W.grownBy W' (some p)
set_option maxHeartbeats 4000000 in
set_option maxRecDepth 100000 in
theorem measure_calls (w0 : World) (p : Nat) (hp : w0.heap.size ≤ p) (N : Nat) : ∀ (t : S28), nodes t ≤ N → N ≤ 20000 → ∀ (A : Option Addr) (c : Nat) (left : Int) (W : World), Kd.C k28 w0 A t.f1.length t.f1 → t.f1.length ≤ c → Below w0.heap.size w0 W → W.heap[p]? = some (.cells #[.int .i64 left] 3 (0, 0)) → (nodes t : Int) ≤ left → left ≤ 20000 →
    Calls Tryd.prog 49 #[.agg #[.int .i64 t.f0, .slice A t.f1.length c], .pointer (some ⟨p, 0, none⟩)] W (MeasEnd t p left W) := by
  induction N with
  | zero => intro t h; have := nodes_pos t; omega
  | succ N ih =>
    intro t hN hN2 A c left W hC hc hB hP hl1 hl2
    obtain ⟨s, l⟩ := t
    rw [nodes] at hN hl1
    have hll := lens_le (l := l)
    have hpW := blk_lt hP
    have HC := Aside0.mk hC
    have IH := Aside0.mk ih
    have HG1 := Aside0.mk (World.grownBy_alloc W (.cells #[.int .i64 s, .slice A l.length c] 28) (some p))
    have HP1 := Aside0.mk (blk_alloc hP (.cells #[.int .i64 s, .slice A l.length c] 28))
    have HX1 := Aside0.mk (blk_new W (.cells #[.int .i64 s, .slice A l.length c] 28))
    have HB0 := Aside0.mk hB
    have HD := Aside0.mk (show nodesL l + 1 ≤ N + 1 ∧ N + 1 ≤ 20000 ∧ l.length ≤ nodesL l ∧ ((nodesL l : Int) + 1 ≤ left) ∧ left ≤ 20000 from ⟨hN, hN2, hll, by omega, hl2⟩)
    have hq0 : (W.alloc (.cells #[.int .i64 s, .slice A l.length c] 28)).cell? ⟨p, 0, none⟩ = some (.int .i64 left) := (blk_cell HP1.out 0).trans rfl
    have hq1 : (W.alloc (.cells #[.int .i64 s, .slice A l.length c] 28)).frozen? ⟨p, 0, none⟩ = false := blk_frozen HP1.out 0
    clear hC ih hP hB hN hN2 hll hl1 hl2
    go_enter Tryd.func49, Tryd.ntmps49
    go_upto_region 1 with (fail)
    generalize (W.alloc (.cells #[.int .i64 s, .slice A l.length c] 28)) = W1 at *
    go_upto_region 2 with (fail)
    rw [wr_id (x := left - 1) (by have := HD.out; omega) (by have := HD.out; omega)]
    have hnp : W.heap.size ≠ p := by omega
    have HG2 := Aside0.mk (gtrans HG1.out (grown_setCell W1 ⟨p, 0, none⟩ (.int .i64 (left - 1))))
    have HP2 := Aside0.mk (show (W1.setCell ⟨p, 0, none⟩ (.int .i64 (left - 1))).heap[p]? = some (.cells #[.int .i64 (left - 1)] 3 (0, 0)) from blk_set HP1.out 0 (.int .i64 (left - 1)))
    have HX2 := Aside0.mk (blk_far (p := ⟨p, 0, none⟩) HX1.out hnp (.int .i64 (left - 1)))
    clear hq0 hq1 HG1 HP1 HX1
    generalize (W1.setCell ⟨p, 0, none⟩ (.int .i64 (left - 1))) = W2 at *
    have hb0 : W2.cell? ⟨W.heap.size, 0, none⟩ = some (.int .i64 s) := (blk_cell HX2.out 0).trans rfl
    have hb1 : W2.cell? ⟨W.heap.size, 1, none⟩ = some (.slice A l.length c) := (blk_cell HX2.out 1).trans rfl
    go_wp2
    clear hb0 hb1
    go_loopg [5, 16] l.length (fun gg v5 v16 wi => ∃ m j : Nat, j ≤ l.length ∧ l.length - j ≤ gg ∧ v5 = .int .i64 m ∧ v16 = .int .i64 j ∧ Aside0 (W.grownBy wi (some p)) ∧ Aside0 (wi.heap[p]? = some (.cells #[.int .i64 (left - 1 - nodesL (l.take j))] 3 (0, 0))) ∧ Aside0 (m = depthL (l.take j)))
    case atStart => exact ⟨0, 0, by omega, by omega, rfl, rfl, HG2, ⟨by rw [List.take_zero, nodesL]; simpa using HP2.out⟩, ⟨by rw [List.take_zero, depthL]⟩⟩
    case round =>
      clear HG2 HP2 HX2
      obtain ⟨m, j, hj, hgg, rfl, rfl, HG, HP, HM⟩ := hrel
      by_cases hlt : j < l.length
      · have hltz : (j : Int) < (l.length : Int) := by omega
        have HBr := Aside0.mk (pw_below_grown HB0.out (some p) (HB0.out).size HG.out (fun k hk => by cases hk; exact hp))
        obtain ⟨ad, A1, c1, e, hx0, hx1, hl1, hC1⟩ := at_T28 HC.out (j : Int) (by omega) hltz
        subst e
        rw [rdT_at hlt] at hx0 hx1 hl1 hC1
        rw [Int.toNat_natCast] at hx0 hx1
        replace hx0 := ((HBr.out).cell (World.block_lt_of_cell? w0 _ hx0)).trans hx0
        replace hx1 := ((HBr.out).cell (World.block_lt_of_cell? w0 _ hx1)).trans hx1
        have HJ := Aside0.mk (show nodesL (l.take (j + 1)) = nodesL (l.take j) + nodes l[j] ∧ depthL (l.take (j + 1)) = max (depthL (l.take j)) (depth l[j]) ∧ nodesL (l.take (j + 1)) ≤ nodesL l from ⟨by rw [takeT hlt, nodesL_snoc], by rw [takeT hlt, depthL_snoc], nodesL_take l _⟩)
        generalize l[j] = u at *
        have HC1 := Aside0.mk hC1
        have HL1 := Aside0.mk hl1
        clear hC1 hl1
        generalize hlv : left - 1 - (nodesL (l.take j) : Int) = lv at *
        have hneg : ¬ lv < 0 := by have := HD.out; have := HJ.out; omega
        have HLV := Aside0.mk hlv
        clear hlv
        go_upto_region 6 with (fail)
        have HG5 := Aside0.mk (gtrans HG.out (World.grownBy_alloc wr (.cells #[.int .i64 u.f0, .slice A1 u.f1.length c1] 28) (some p)))
        have HP5 := Aside0.mk (blk_alloc HP.out (.cells #[.int .i64 u.f0, .slice A1 u.f1.length c1] 28))
        have HX5 := Aside0.mk (blk_new wr (.cells #[.int .i64 u.f0, .slice A1 u.f1.length c1] 28))
        clear HG HP hx0 hx1
        generalize (wr.alloc (.cells #[.int .i64 u.f0, .slice A1 u.f1.length c1] 28)) = w5 at *
        generalize wr.heap.size = b7 at *
        have hb0 : w5.cell? ⟨b7, 0, none⟩ = some (.int .i64 u.f0) := (blk_cell HX5.out 0).trans rfl
        have hb1 : w5.cell? ⟨b7, 1, none⟩ = some (.slice A1 u.f1.length c1) := (blk_cell HX5.out 1).trans rfl
        have hq0 : w5.cell? ⟨p, 0, none⟩ = some (.int .i64 lv) := (blk_cell HP5.out 0).trans rfl
        have HB5 := Aside0.mk (pw_below_grown HB0.out (some p) (HB0.out).size HG5.out (fun k hk => by cases hk; exact hp))
        go_wp2_with fail
        refine (IH.out u (by have := HD.out; have := HJ.out; omega) (by have := HD.out; omega) A1 c1 lv w5 HC1.out HL1.out HB5.out HP5.out (by have := HD.out; have := HJ.out; have := HLV.out; omega) (by have := HD.out; have := HLV.out; omega)).mono ?_
        rintro E w6 ⟨rfl, hP6, hG6⟩
        have HP6 := Aside0.mk hP6
        have HG6 := Aside0.mk (gtrans HG5.out hG6)
        clear hP6 hG6 hb0 hb1 hq0 HP5 HG5 HX5 HB5 hneg
        by_cases hmx : (m : Int) < (depth u : Int)
        · go_wp2
          go_roundg (l.length - (j + 1))
          case measure => omega
          case rel => exact ⟨max m (depth u), j + 1, by omega, by omega, by rw [show max m (depth u) = depth u by omega], by rw [wrap_succ (by omega) (by have := HD.out; omega)]; rfl, HG6, ⟨by rw [HP6.out, ← HLV.out, (HJ.out).1, show left - 1 - (nodesL (l.take j) : Int) - (nodes u : Int) = left - 1 - ((nodesL (l.take j) + nodes u : Nat) : Int) by omega]⟩, ⟨by rw [(HJ.out).2.1, HM.out]⟩⟩
        · go_wp2
          go_roundg (l.length - (j + 1))
          case measure => omega
          case rel => exact ⟨max m (depth u), j + 1, by omega, by omega, by rw [show max m (depth u) = m by omega], by rw [wrap_succ (by omega) (by have := HD.out; omega)]; rfl, HG6, ⟨by rw [HP6.out, ← HLV.out, (HJ.out).1, show left - 1 - (nodesL (l.take j) : Int) - (nodes u : Int) = left - 1 - ((nodesL (l.take j) + nodes u : Nat) : Int) by omega]⟩, ⟨by rw [(HJ.out).2.1, HM.out]⟩⟩
      · have hltz : ¬ (j : Int) < (l.length : Int) := by omega
        have hje : j = l.length := by omega
        have hm := depthL_le l
        subst hje
        rw [List.take_length] at HP HM
        go_wp2
        go_ret
        refine ⟨?_, by rw [HP.out, nodes]; simp; omega, HG.out⟩
        rw [depth, ← HM.out, wr_id (by omega) (by have := HM.out; have := HD.out; omega)]
        rfl
end Go.Proofs.YtmphigeefppfpaaDoor.H
