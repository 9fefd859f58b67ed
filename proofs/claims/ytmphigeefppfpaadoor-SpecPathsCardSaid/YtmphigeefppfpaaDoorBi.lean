/- auto.Check's closure, and rising. -/
import Derived.Test.YtmphigeefppfpaaDoorBh
import Derived.BigQuiet
namespace Go.Proofs.YtmphigeefppfpaaDoor.H
open Go.RowKit Go.Proofs.YtmphigeefppfpaaDoorW.PrintWords Go.Proofs.YtmphigeefppfpaaDoorW.PrintLast Go.Proofs.YtmphigeefppfpaaDoorW.PrintMore
set_option linter.unusedVariables false

set_option maxHeartbeats 8000000 in
set_option maxRecDepth 100000 in
theorem bad1_calls (k s f n : Nat) (ba bf bn : Nat) (rk : List Int) (A1 : Option Addr) (c1 : Nat) (v1 v2 : Value) (w : World) (ha : w.heap[ba]? = some (.cells #[.slice A1 rk.length c1, v1, v2] 31 (0, 0))) (hbf : w.heap[bf]? = some (.cells #[.int .i64 (f : Int)] 3 (0, 0))) (hbn : w.heap[bn]? = some (.cells #[.int .i64 (n : Int)] 3 (0, 0)))
    (hr : Kd.C (Kd.int .i64) w A1 rk.length rk) (hf : f < rk.length) (hk : (k : Int) < rd rk (f : Int)) (hs : s < n) :
    Calls Tryd.prog 33 #[.agg #[.int .i64 (k : Int), .int .i64 (s : Int)], .pointer (some ⟨ba, 0, none⟩), .pointer (some ⟨bf, 0, none⟩), .pointer (some ⟨bn, 0, none⟩)] w fun e w' => e = .returned (.bool false) ∧ Below w.heap.size w w' := by
  obtain ⟨ad, e0, hx⟩ := Kd.at_int hr (f : Int) (by omega) (by omega)
  subst e0
  rw [Int.toNat_natCast] at hx
  generalize rd rk (f : Int) = r at *
  have hfz : (f : Int) < (rk.length : Int) := by omega
  have hb1 := below_alloc (Below.refl w.heap.size w) (.cells #[.int .i64 (k : Int), .int .i64 (s : Int)] 52)
  have hx1 := pw_cell_below hb1 hx
  have ha1 := blk_below ha hb1
  have hf1 := blk_below hbf hb1
  have hn1 := blk_below hbn hb1
  have hnew := blk_new w (.cells #[.int .i64 (k : Int), .int .i64 (s : Int)] 52)
  have HB := Aside0.mk hb1
  have q1 : decide ((k : Int) ≥ r) = false := decide_eq_false (by omega)
  have q2 : decide ((s : Int) ≥ (n : Int)) = false := decide_eq_false (by omega)
  have HSn := Aside0.mk (show decide (n ≤ s) = false from decide_eq_false (by omega))
  have q3 : decide ((k : Int) < 0) = false := decide_eq_false (by omega)
  have q4 : decide ((s : Int) < 0) = false := decide_eq_false (by omega)
  clear hx hr ha hbf hbn hf hb1 hk hs
  go_enter Tryd.func33, Tryd.ntmps33
  go_upto_region 1 with (fail)
  generalize (w.alloc (.cells #[.int .i64 (k : Int), .int .i64 (s : Int)] 52)) = W1 at *
  have hc0 : W1.cell? ⟨ba, 0, none⟩ = some (.slice (some ad) rk.length c1) := (blk_cell ha1 0).trans rfl
  have hc1 : W1.cell? ⟨bf, 0, none⟩ = some (.int .i64 (f : Int)) := (blk_cell hf1 0).trans rfl
  have hc2 : W1.cell? ⟨bn, 0, none⟩ = some (.int .i64 (n : Int)) := (blk_cell hn1 0).trans rfl
  have hc3 : W1.cell? ⟨w.heap.size, 0, none⟩ = some (.int .i64 (k : Int)) := (blk_cell hnew 0).trans rfl
  have hc4 : W1.cell? ⟨w.heap.size, 1, none⟩ = some (.int .i64 (s : Int)) := (blk_cell hnew 1).trans rfl
  clear ha1 hf1 hn1 hnew
  go_quiet (fail)
  go_wp2
  go_ret
  refine ⟨?_, by apply pw_below_drewN; exact HB.out⟩
  rw [show decide (n ≤ s) = false from HSn.out]
  rfl
def bad1_pred (n r : Nat) : Prop := True
set_option maxHeartbeats 2000000 in
theorem rising_calls (A : Option Addr) (c : Nat) (l : List Nd) (w : World) (hr : Kd.C Q.k78 w A l.length l) (hl : l.length ≤ 24) (hx : ∀ x ∈ l, 0 ≤ x.f0 ∧ x.f0 < 100) (hup : ∀ i, i + 1 < l.length → (l.getD i zN).f0 < (l.getD (i + 1) zN).f0) :
    Calls Tryd.prog 35 #[.slice A l.length c, .func (.func 36) #[] #[]] w fun e w' => e = .returned (.bool true) ∧ Below w.heap.size w w' := by
  have HR := Aside0.mk hr
  have HL := Aside0.mk hl
  have HX := Aside0.mk hx
  have HU := Aside0.mk hup
  clear hr hl hx hup
  go_enter Tryd.func35, Tryd.ntmps35
  go_wp2
  go_loopg [5] l.length (fun gg v5 wi => ∃ j : Nat, l.length - j ≤ gg ∧ v5 = .int .i64 ((j : Int) + 1) ∧ (j ≤ l.length) ∧ Aside0 (Below w.heap.size w wi))
  case atStart => exact ⟨0, by omega, by rfl, by omega, ⟨Below.refl _ _⟩⟩
  case round =>
    obtain ⟨j, hgg, rfl, hj, HB⟩ := hrel
    by_cases hlt : j + 1 < l.length
    · have hltz : (j : Int) + 1 < (l.length : Int) := by omega
      have hlt0 : (j : Int) < (l.length : Int) := by omega
      have hwj : IntKind.i64.wrap (j : Int) = (j : Int) := by rw [i64_w]; exact wr_id (by omega) (by have := HL.out; omega)
      have hl24 : (l.length : Int) ≤ 24 := by have := HL.out; omega
      obtain ⟨ad, e, hx0, hx1⟩ := at_need HR.out j (by omega)
      subst e
      obtain ⟨ad', e, hy0, hy1⟩ := at_need HR.out (j + 1) hlt
      cases e
      replace hx0 := pw_cell_below HB.out hx0
      replace hx1 := pw_cell_below HB.out hx1
      replace hy0 := pw_cell_below HB.out hy0
      replace hy1 := pw_cell_below HB.out hy1
      have hu := HU.out j hlt
      have h1 := HX.out _ (getD_memN (k := j) (by omega))
      have h2 := HX.out _ (getD_memN (k := j + 1) hlt)
      generalize l.getD j zN = x at *
      generalize l.getD (j + 1) zN = y at *
      have HBe := Aside0.mk (show ∀ W : World, Calls Tryd.prog 36 #[.agg #[.int .i64 x.f0, .int .i64 x.f1], .agg #[.int .i64 y.f0, .int .i64 y.f1]] W fun E w' => E = .returned (.int .i64 (x.f0 - y.f0)) ∧ Below W.heap.size W w' from fun W => PSpecPaths.auto_Before.calls x.f0 x.f1 y.f0 y.f1 (x.f0 - y.f0) W (by unfold PSpecPaths.auto_Before.f; rw [if_neg (by omega), wr_id (by omega) (by omega)]))
      have hneg : ¬ (x.f0 - y.f0) ≥ 0 := by omega
      have hnle : ¬ y.f0 ≤ x.f0 := by omega
      have h0j : (0 : Int) ≤ (j : Int) + 1 := by omega
      clear h1 h2 hu
      go_upto_region 4 with (fail)
      go_region_held3 (fun w' => (w'.cell? (ad.add (j * 2)) = some (.int .i64 x.f0) ∧ w'.cell? ⟨(ad.add (j * 2)).block, (ad.add (j * 2)).off + 1, none⟩ = some (.int .i64 x.f1)) ∧ (w'.cell? (ad.add ((j + 1) * 2)) = some (.int .i64 y.f0) ∧ w'.cell? ⟨(ad.add ((j + 1) * 2)).block, (ad.add ((j + 1) * 2)).off + 1, none⟩ = some (.int .i64 y.f1)))
        (first | exact ⟨⟨hx0, hx1⟩, hy0, hy1⟩ | exact ⟨⟨pw_cell_below HB2.out hx0, pw_cell_below HB2.out hx1⟩, pw_cell_below HB2.out hy0, pw_cell_below HB2.out hy1⟩ | fail)
        (first | (go_at_call 36; (with_reducible refine (HBe.out _).mono ?_); rintro E w2 ⟨rfl, hb⟩; have HB2 := Aside0.mk (below_then (below_drew (Below.refl wr.heap.size wr)) (below_drew (Below.refl wr.heap.size wr)).size hb); clear hb) | fail)
      go_wp2
      go_roundg (l.length - (j + 1))
      case measure => omega
      case rel => exact ⟨j + 1, by omega, by first | rfl | (rw [wrap_succ (by omega) (by omega)]; rfl), by omega, ⟨below_then HB.out (HB.out).size HB2.out⟩⟩
    · have hltz : ¬ (j : Int) + 1 < (l.length : Int) := by omega
      go_wp2
      go_ret
      exact ⟨rfl, HB.out⟩
end Go.Proofs.YtmphigeefppfpaaDoor.H
