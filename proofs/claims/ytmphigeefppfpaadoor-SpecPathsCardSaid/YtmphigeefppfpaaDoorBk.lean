/- auto.States and auto.Is. -/
import Derived.Test.YtmphigeefppfpaaDoorBj
namespace Go.Proofs.YtmphigeefppfpaaDoor.H
open Go.RowKit Go.Proofs.YtmphigeefppfpaaDoorW.PrintWords Go.Proofs.YtmphigeefppfpaaDoorW.PrintLast Go.Proofs.YtmphigeefppfpaaDoorW.PrintMore
open Go.Proofs.YtmphigeefppfpaaDoor.PSpecPaths (S28 k28 rd_T28 z28 at_T28)
set_option linter.unusedVariables false

theorem contains_all : ((List.range 64).all fun (o : Nat) => (List.range 6).all fun (s : Nat) => PSpecPaths.slices_Contains_int_int.f 20 (bitsL o) (s : Int) == some (o.testBit s)) = true := by kernel_rfl
theorem contains_bit {o s : Nat} (ho : o < 64) (hs : s < 6) : PSpecPaths.slices_Contains_int_int.f 20 (bitsL o) (s : Int) = some (o.testBit s) := by
  have h := List.all_eq_true.1 (List.all_eq_true.1 contains_all o (List.mem_range.2 ho)) s (List.mem_range.2 hs)
  simpa using h
theorem box3_cells {W : World} {b : Nat} {x y z : Value} {t : TypeId} (h : W.heap[b]? = some (.cells #[x, y, z] t (0, 0))) : W.cell? ⟨b, 0, none⟩ = some x ∧ W.cell? ⟨b, 1, none⟩ = some y ∧ W.cell? ⟨b, 2, none⟩ = some z :=
  ⟨(blk_cell h 0).trans rfl, (blk_cell h 1).trans rfl, (blk_cell h 2).trans rfl⟩
theorem box2_cells {W : World} {b : Nat} {x y : Value} {t : TypeId} (h : W.heap[b]? = some (.cells #[x, y] t (0, 0))) : W.cell? ⟨b, 0, none⟩ = some x ∧ W.cell? ⟨b, 1, none⟩ = some y :=
  ⟨(blk_cell h 0).trans rfl, (blk_cell h 1).trans rfl⟩
/-- The boxes of an automaton and of a tree, behind a call's entry. -/
structure AT2 (w W : World) (a b : Array Value) : Prop where
  hb : Below w.heap.size w W
  h1 : W.heap[w.heap.size]? = some (.cells a 31 (0, 0))
  h2 : W.heap[w.heap.size + 1]? = some (.cells b 28 (0, 0))
theorem AT2.start (w : World) (a b : Array Value) : AT2 w ((w.alloc (.cells a 31)).alloc (.cells b 28)) a b := ⟨below_alloc (below_alloc (Below.refl _ _) _) _, blk_alloc (blk_new w (.cells a 31)) (.cells b 28), blk_at2 w (.cells a 31) (.cells b 28)⟩
theorem AT2.below {w W W1 : World} {a b : Array Value} (h : AT2 w W a b) (hb : Below W.heap.size W W1) : AT2 w W1 a b := ⟨below_then h.hb h.hb.size hb, blk_below h.h1 hb, blk_below h.h2 hb⟩
def StatesEnd (M : Mv) (t : S28) (w : World) (E : Ending) (w' : World) : Prop := ∃ (o : Nat) (A : Option Addr) (c : Nat), E = .returned (.tuple #[.slice A (bitsL o).length c, .int .i64 0]) ∧ IsMask M.length (accT M t) o ∧ (bitsL o).length ≤ c ∧ Kd.C (Kd.int .i64) w' A (bitsL o).length (bitsL o) ∧ Below w.heap.size w w'
set_option maxHeartbeats 4000000 in
set_option maxRecDepth 100000 in
theorem states_calls (rk : List Int) (M : Mv) (st : Int) (t : S28) (A1 : Option Addr) (c1 : Nat) (A2 : Option Addr) (c2 : Nat) (A : Option Addr) (c : Nat) (w : World) (hok : AuOk rk M) (hs0 : 0 ≤ st) (hs1 : st < (M.length : Int)) (ht : treeOk rk t = true)
    (hr : Kd.C (Kd.int .i64) w A1 rk.length rk) (hc1 : rk.length ≤ c1) (hM : Kd.C kA3 w A2 M.length M) (hC : Kd.C k28 w A t.f1.length t.f1) (hc : t.f1.length ≤ c) (hT : Tab w) :
    Calls Tryd.prog 20 #[.agg #[.slice A1 rk.length c1, .int .i64 st, .slice A2 M.length c2], .int .i64 0, .agg #[.int .i64 t.f0, .slice A t.f1.length c]] w (StatesEnd M t w) := by
  have HCH := Aside0.mk fun W (hW : Below w.heap.size w W) => acheck_calls rk M st A1 c1 A2 c2 W hok hs0 hs1 (Kd.C_below hr hW) hc1 (Kd.C_below hM hW)
  have HTC := Aside0.mk fun W (hW : Below w.heap.size w W) => tcheck_calls rk t hok.1 ht A1 c1 A c W (Kd.C_below hr hW) hc1 (Kd.C_below hC hW) hc
  have ht2 := ht
  simp only [treeOk, Bool.and_eq_true, decide_eq_true_eq] at ht2
  have HMA := Aside0.mk fun W (hW : Below w.heap.size w W) => mask_calls rk M hok.2.2.1 st A1 rk.length c1 A2 c2 w hM _ t (Nat.le_refl _) ht2.1.1 ht2.2 A c W hW hC hc
  have HLI := Aside0.mk fun W (hW : Below w.heap.size w W) (o : Nat) (ho : o < 64) => list_calls o ho W (hT.below hW)
  have HS := Aside0.mk (AT2.start w #[.slice A1 rk.length c1, .int .i64 st, .slice A2 M.length c2] #[.int .i64 t.f0, .slice A t.f1.length c])
  clear hok hs0 hs1 ht ht2 hr hc1 hM hC hc hT
  go_enter Tryd.func20, Tryd.ntmps20
  go_upto_region 1 with (fail)
  generalize ((w.alloc (.cells #[.slice A1 rk.length c1, .int .i64 st, .slice A2 M.length c2] 31)).alloc (.cells #[.int .i64 t.f0, .slice A t.f1.length c] 28)) = W1 at *
  obtain ⟨hk0, hk1, hk2⟩ := box3_cells (HS.out).h1
  go_wp2_with fail
  refine (HCH.out _ (HS.out).hb).mono ?_
  rintro E w2 ⟨rfl, hb⟩
  have HS2 := Aside0.mk ((HS.out).below hb)
  clear hb hk0 hk1 hk2 HS HCH
  obtain ⟨hk0, hk1, hk2⟩ := box3_cells (HS2.out).h1
  obtain ⟨hk3, hk4⟩ := box2_cells (HS2.out).h2
  go_wp2_with fail
  refine (HTC.out _ (HS2.out).hb).mono ?_
  rintro E w3 ⟨rfl, hb⟩
  have HS3 := Aside0.mk ((HS2.out).below hb)
  clear hb hk0 hk1 hk2 hk3 hk4 HS2 HTC
  obtain ⟨hk0, hk1, hk2⟩ := box3_cells (HS3.out).h1
  obtain ⟨hk3, hk4⟩ := box2_cells (HS3.out).h2
  go_wp2_with fail
  refine (HMA.out _ (HS3.out).hb).mono ?_
  rintro E w4 ⟨o, rfl, hm, hb⟩
  have HS4 := Aside0.mk ((HS3.out).below hb)
  have HK := Aside0.mk hm
  clear hb hm hk0 hk1 hk2 hk3 hk4 HS3 HMA
  go_wp2_with fail
  refine (HLI.out _ (HS4.out).hb o (HK.out).1).mono ?_
  rintro E w5 ⟨A5, c5, rfl, hl5, hC5, hb⟩
  have HB5 := Aside0.mk ((HS4.out).below hb).hb
  have HC5 := Aside0.mk hC5
  have HL5 := Aside0.mk hl5
  clear hb hC5 hl5 HS4 HLI
  go_wp2
  go_ret2
  exact ⟨o, A5, c5, rfl, HK.out, HL5.out, HC5.out, HB5.out⟩
set_option maxHeartbeats 4000000 in
theorem ais_calls (rk : List Int) (M : Mv) (st : Nat) (t : S28) (A1 : Option Addr) (c1 : Nat) (A2 : Option Addr) (c2 : Nat) (A : Option Addr) (c : Nat) (w : World) (hok : AuOk rk M) (hs1 : st < M.length) (ht : treeOk rk t = true)
    (hr : Kd.C (Kd.int .i64) w A1 rk.length rk) (hc1 : rk.length ≤ c1) (hM : Kd.C kA3 w A2 M.length M) (hC : Kd.C k28 w A t.f1.length t.f1) (hc : t.f1.length ≤ c) (hT : Tab w) :
    Calls Tryd.prog 7 #[.agg #[.slice A1 rk.length c1, .int .i64 (st : Int), .slice A2 M.length c2], .int .i64 0, .agg #[.int .i64 t.f0, .slice A t.f1.length c]] w fun E w' => E = .returned (.tuple #[.bool (accT M t st), .int .i64 0]) ∧ Below w.heap.size w w' := by
  have HST := Aside0.mk fun W (hW : Below w.heap.size w W) => states_calls rk M (st : Int) t A1 c1 A2 c2 A c W hok (by omega) (by omega) ht (Kd.C_below hr hW) hc1 (Kd.C_below hM hW) (Kd.C_below hC hW) hc (hT.below hW)
  have HS := Aside0.mk (AT2.start w #[.slice A1 rk.length c1, .int .i64 (st : Int), .slice A2 M.length c2] #[.int .i64 t.f0, .slice A t.f1.length c])
  have HN := Aside0.mk (show M.length ≤ 6 ∧ st < M.length from ⟨hok.2.2.1.1, hs1⟩)
  clear hok hs1 ht hr hc1 hM hC hc hT
  go_enter Tryd.func7, Tryd.ntmps7
  go_upto_region 1 with (fail)
  generalize ((w.alloc (.cells #[.slice A1 rk.length c1, .int .i64 (st : Int), .slice A2 M.length c2] 31)).alloc (.cells #[.int .i64 t.f0, .slice A t.f1.length c] 28)) = W1 at *
  obtain ⟨hk0, hk1, hk2⟩ := box3_cells (HS.out).h1
  obtain ⟨hk3, hk4⟩ := box2_cells (HS.out).h2
  go_wp2_with fail
  refine (HST.out _ (HS.out).hb).mono ?_
  rintro E w2 ⟨o, A5, c5, rfl, hm, hl5, hC5, hb⟩
  have HS2 := Aside0.mk ((HS.out).below hb)
  have HCO := Aside0.mk (PSpecPaths.slices_Contains_int_int.calls 20 A5 c5 (bitsL o) (st : Int) (o.testBit st) w2 hC5 hl5 (contains_bit hm.1 (by have := HN.out; omega)))
  have HE := Aside0.mk (show o.testBit st = accT M t st by rw [hm.2 st (by have := HN.out; omega), decide_eq_true (HN.out).2, Bool.true_and])
  clear hb hm hl5 hC5 hk0 hk1 hk2 hk3 hk4 HS HST
  obtain ⟨hk0, hk1, hk2⟩ := box3_cells (HS2.out).h1
  go_wp2_with fail
  refine (HCO.out).mono ?_
  rintro E w3 ⟨rfl, hb⟩
  have HB3 := Aside0.mk (below_then (HS2.out).hb ((HS2.out).hb).size hb.below)
  clear hb hk0 hk1 hk2 HS2 HCO
  go_wp2
  go_ret2
  exact ⟨by rw [← HE.out]; rfl, HB3.out⟩
end Go.Proofs.YtmphigeefppfpaaDoor.H
