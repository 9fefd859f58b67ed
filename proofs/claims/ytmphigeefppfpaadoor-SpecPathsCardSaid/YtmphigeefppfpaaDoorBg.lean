/- auto.Satisfied. -/
import Derived.Test.YtmphigeefppfpaaDoorBf
namespace Go.Proofs.YtmphigeefppfpaaDoor.H
open Go.RowKit Go.Proofs.YtmphigeefppfpaaDoorW.PrintWords Go.Proofs.YtmphigeefppfpaaDoorW.PrintLast Go.Proofs.YtmphigeefppfpaaDoorW.PrintMore
set_option linter.unusedVariables false

theorem sat_all : ((List.range 64).all fun (m : Nat) => (List.range 6).all fun (s : Nat) => (bits BinOp.and IntKind.i64 ((m : Int) / 2 ^ s) 1 == 0) == !m.testBit s) = true := by kernel_rfl
theorem sat_bit {m s : Nat} (hm : m < 64) (hs : s < 6) : (bits BinOp.and IntKind.i64 ((m : Int) / 2 ^ s) 1 == 0) = !m.testBit s := by
  have h := List.all_eq_true.1 (List.all_eq_true.1 sat_all m (List.mem_range.2 hm)) s (List.mem_range.2 hs)
  simpa using h
theorem sat1_calls (k s : Nat) (b : Nat) (A : Option Addr) (c : Nat) (ks : List Nat) (w : World) (hb : w.heap[b]? = some (.cells #[.slice A ks.length c] 25 (0, 0))) (hr : Kd.C (Kd.int .i64) w A ks.length (ks.map fun (m : Nat) => (m : Int))) (hk : k < ks.length) (hs : s < 6) (hm : ∀ m ∈ ks, m < 64) :
    Calls Tryd.prog 48 #[.agg #[.int .i64 (k : Int), .int .i64 (s : Int)], .pointer (some ⟨b, 0, none⟩)] w fun e w' => e = .returned (.bool (!(ks.getD k 0).testBit s)) ∧ Below w.heap.size w w' := by
  obtain ⟨ad, e0, hx⟩ := Kd.at_int hr (k : Int) (by omega) (by omega)
  subst e0
  have hv : rd (ks.map fun (m : Nat) => (m : Int)) (k : Int) = ((ks.getD k 0 : Nat) : Int) := by simp [rd, List.getD_eq_getElem?_getD, List.getElem?_eq_getElem hk]
  rw [hv, Int.toNat_natCast] at hx
  have hmv : ks.getD k 0 < 64 := by rw [List.getD_eq_getElem?_getD, List.getElem?_eq_getElem hk]; exact hm _ (List.getElem_mem hk)
  generalize ks.getD k 0 = m at *
  have hkz : (k : Int) < (ks.length : Int) := by omega
  have ha := below_alloc (Below.refl w.heap.size w) (.cells #[.int .i64 (k : Int), .int .i64 (s : Int)] 52)
  have hx1 := pw_cell_below ha hx
  have hb1 := blk_below hb ha
  have hn1 := blk_new w (.cells #[.int .i64 (k : Int), .int .i64 (s : Int)] 52)
  have HB := Aside0.mk ha
  clear hv hr hm hx hb ha
  go_enter Tryd.func48, Tryd.ntmps48
  go_upto_region 1 with (fail)
  generalize (w.alloc (.cells #[.int .i64 (k : Int), .int .i64 (s : Int)] 52)) = W1 at *
  have hc0 : W1.cell? ⟨b, 0, none⟩ = some (.slice (some ad) ks.length c) := (blk_cell hb1 0).trans rfl
  have hc1 : W1.cell? ⟨w.heap.size, 0, none⟩ = some (.int .i64 (k : Int)) := (blk_cell hn1 0).trans rfl
  have hc2 : W1.cell? ⟨w.heap.size, 1, none⟩ = some (.int .i64 (s : Int)) := (blk_cell hn1 1).trans rfl
  clear hb1 hn1
  go_region
  go_wp2
  go_ret
  refine ⟨?_, below_drew1 HB.out⟩
  rw [sat_bit (by assumption) (by assumption)]
  rfl
/-- The tables of moves that are read here: at most 6 states, each need within its kids and states. -/
abbrev Mv := List (List (List (List Nd)))
def altsAt (M : Mv) (q f : Nat) : List (List Nd) := (M.getD q []).getD f []
def needOk (n r : Nat) (x : Nd) : Prop := ∃ k s : Nat, k < r ∧ s < n ∧ x = ⟨(k : Int), (s : Int)⟩
def meets (ks : List Nat) (x : Nd) : Bool := (ks.getD x.f0.toNat 0).testBit x.f1.toNat
def satBit (M : Mv) (f : Nat) (ks : List Nat) (q : Nat) : Bool := (altsAt M q f).any fun l => l.all (meets ks)
theorem or_all : ((List.range 64).all fun (o : Nat) => (List.range 6).all fun (q : Nat) => (bits BinOp.or IntKind.i64 (o : Int) (wrap64 (2 ^ min q 64)) == ((o ||| 2 ^ q : Nat) : Int)) && decide (o ||| 2 ^ q < 64) && ((List.range 6).all fun i => (o ||| 2 ^ q).testBit i == (o.testBit i || i == q))) = true := by kernel_rfl
theorem or_bit {o q : Nat} (ho : o < 64) (hq : q < 6) : bits BinOp.or IntKind.i64 (o : Int) (wrap64 (2 ^ min q 64)) = ((o ||| 2 ^ q : Nat) : Int) ∧ o ||| 2 ^ q < 64 ∧ ∀ i, i < 6 → (o ||| 2 ^ q).testBit i = (o.testBit i || i == q) := by
  have h := List.all_eq_true.1 (List.all_eq_true.1 or_all o (List.mem_range.2 ho)) q (List.mem_range.2 hq)
  simp only [Bool.and_eq_true, beq_iff_eq, decide_eq_true_eq] at h
  exact ⟨h.1.1, h.1.2, fun i hi => by have := List.all_eq_true.1 h.2 i (List.mem_range.2 hi); simpa using this⟩
theorem any_not {ks : List Nat} {l : List Nd} : (l.any fun x => !meets ks x) = !l.all (meets ks) := by
  induction l with
  | nil => rfl
  | cons a r ih => rw [List.any_cons, List.all_cons, ih, Bool.not_and]
theorem any_none_sl {α : Type} {p : List α → Bool} {l : List (List α)} (h : ∀ i, i < l.length → p (l.getD i []) = false) : l.any p = false := by
  refine List.any_eq_false.2 fun x hx => ?_
  obtain ⟨j, hj, rfl⟩ := List.getElem_of_mem hx
  have h2 := h j hj
  rw [List.getD_eq_getElem?_getD, List.getElem?_eq_getElem hj] at h2
  simpa using h2
theorem sat_pred (b : Nat) (A : Option Addr) (c : Nat) (ks : List Nat) (w : World) (hb : w.heap[b]? = some (.cells #[.slice A ks.length c] 25 (0, 0))) (hr : Kd.C (Kd.int .i64) w A ks.length (ks.map fun (m : Nat) => (m : Int))) (hm : ∀ m ∈ ks, m < 64) :
    PredN 48 #[.pointer (some ⟨b, 0, none⟩)] (needOk 6 ks.length) (fun x => !meets ks x) w := by
  rintro W x hW ⟨k, s, hk, hs, rfl⟩
  exact sat1_calls k s b A c ks W (blk_below hb hW) (Kd.C_below hr hW) hk hs hm
def SatEnd (M : Mv) (f : Nat) (ks : List Nat) (w : World) (E : Ending) (w' : World) : Prop := ∃ o : Nat, E = .returned (.int .i64 (o : Int)) ∧ o < 64 ∧ (∀ i, i < 6 → o.testBit i = (decide (i < M.length) && satBit M f ks i)) ∧ Below w.heap.size w w'
set_option maxHeartbeats 4000000 in
set_option maxRecDepth 100000 in
theorem sat_calls (M : Mv) (f : Nat) (ks : List Nat) (st : Int) (A1 : Option Addr) (n1 c1 : Nat) (A2 : Option Addr) (c2 : Nat) (A : Option Addr) (c : Nat) (w : World)
    (hM : Kd.C kA3 w A2 M.length M) (hr : Kd.C (Kd.int .i64) w A ks.length (ks.map fun (m : Nat) => (m : Int))) (hn : M.length ≤ 6) (hks : ∀ m ∈ ks, m < 64)
    (hf : ∀ q, q < M.length → f < (M.getD q []).length) (hx : ∀ q, q < M.length → ∀ l ∈ altsAt M q f, ∀ x ∈ l, needOk 6 ks.length x) :
    Calls Tryd.prog 42 #[.agg #[.slice A1 n1 c1, .int .i64 st, .slice A2 M.length c2], .int .i64 (f : Int), .slice A ks.length c] w (SatEnd M f ks w) := by
  have hmf := run_mkfun
  have HM := Aside0.mk hM
  have HK := Aside0.mk hr
  have HN := Aside0.mk hn
  have HS := Aside0.mk hks
  have HF := Aside0.mk hf
  have HX := Aside0.mk hx
  have ha := below_alloc (below_alloc (Below.refl w.heap.size w) (.cells #[.slice A1 n1 c1, .int .i64 st, .slice A2 M.length c2] 31)) (.cells #[.slice A ks.length c] 25)
  have hb1 := blk_alloc (blk_new w (.cells #[.slice A1 n1 c1, .int .i64 st, .slice A2 M.length c2] 31)) (.cells #[.slice A ks.length c] 25)
  have hb2 := blk_at2 w (.cells #[.slice A1 n1 c1, .int .i64 st, .slice A2 M.length c2] 31) (.cells #[.slice A ks.length c] 25)
  have HB := Aside0.mk ha
  have HB1 := Aside0.mk hb1
  have HB2 := Aside0.mk hb2
  clear hM hr hn hks hf hx ha hb1 hb2
  go_enter Tryd.func42, Tryd.ntmps42
  go_upto_region 1 with (fail)
  generalize ((w.alloc (.cells #[.slice A1 n1 c1, .int .i64 st, .slice A2 M.length c2] 31)).alloc (.cells #[.slice A ks.length c] 25)) = W1 at *
  have hk0 : W1.cell? ⟨w.heap.size, 2, none⟩ = some (.slice A2 M.length c2) := (blk_cell HB1.out 2).trans rfl
  go_wp2
  clear hk0
  go_loopg [7, 14] M.length (fun gg v7 v14 wi => ∃ o q : Nat, q ≤ M.length ∧ M.length - q ≤ gg ∧ v7 = .int .i64 o ∧ v14 = .int .i64 q ∧ o < 64 ∧ Aside0 (∀ i, i < 6 → o.testBit i = (decide (i < q) && satBit M f ks i)) ∧ Aside0 (Below w.heap.size w wi) ∧
    Aside0 (wi.heap[w.heap.size]? = some (.cells #[.slice A1 n1 c1, .int .i64 st, .slice A2 M.length c2] 31 (0, 0))) ∧ Aside0 (wi.heap[w.heap.size + 1]? = some (.cells #[.slice A ks.length c] 25 (0, 0))))
  case atStart => exact ⟨0, 0, by omega, by omega, rfl, rfl, by omega, ⟨fun i hi => by simp⟩, HB, HB1, HB2⟩
  case round =>
    clear HB HB1 HB2
    obtain ⟨o, q, hq, hgg, rfl, rfl, ho, HO, HB, HB1, HB2⟩ := hrel
    by_cases hlt : q < M.length
    · have hltz : (q : Int) < (M.length : Int) := by omega
      have hk0 : wr.cell? ⟨w.heap.size, 2, none⟩ = some (.slice A2 M.length c2) := (blk_cell HB1.out 2).trans rfl
      obtain ⟨ad, A3, c3, e, hx1, hl3, hC3⟩ := at_sl HM.out q hlt
      subst e
      have hfl := HF.out q hlt
      obtain ⟨ad4, A4, c4, e, hx2, hl4, hC4⟩ := at_sl hC3 f hfl
      subst e
      replace hx1 := pw_cell_below (HB.out) hx1
      replace hx2 := pw_cell_below (HB.out) hx2
      have hflz : (f : Int) < ((M.getD q []).length : Int) := by omega
      have HX1 := Aside0.mk (HX.out q hlt)
      have HSB := Aside0.mk (show satBit M f ks q = ((M.getD q []).getD f []).any fun l => l.all (meets ks) from rfl)
      unfold altsAt at HX1
      generalize (M.getD q []).length = m3 at *
      generalize (M.getD q []).getD f [] = alts at *
      have HC4 := Aside0.mk hC4
      clear hC3 hC4 hl3 hl4 hfl
      go_wp2
      clear hk0 hx1 hx2
      go_loopg [7, 26] alts.length (fun gg2 v7 v26 wi => ∃ j : Nat, j ≤ alts.length ∧ alts.length - j ≤ gg2 ∧ v7 = .int .i64 o ∧ v26 = .int .i64 j ∧ Aside0 (∀ i, i < j → (alts.getD i []).all (meets ks) = false) ∧ Aside0 (Below w.heap.size w wi) ∧
        Aside0 (wi.heap[w.heap.size]? = some (.cells #[.slice A1 n1 c1, .int .i64 st, .slice (some ad) M.length c2] 31 (0, 0))) ∧ Aside0 (wi.heap[w.heap.size + 1]? = some (.cells #[.slice A ks.length c] 25 (0, 0))))
      case atStart => exact ⟨0, by omega, by omega, rfl, rfl, ⟨fun i hi => absurd hi (Nat.not_lt_zero _)⟩, HB, HB1, HB2⟩
      case round =>
        clear HB HB1 HB2
        obtain ⟨j, hj, hgg2, rfl, rfl, HA, HB, HB1, HB2⟩ := hrel
        by_cases hjt : j < alts.length
        · have hjtz : (j : Int) < (alts.length : Int) := by omega
          obtain ⟨ad5, A5, c5, e, hx5, hl5, hC5⟩ := at_sl HC4.out j hjt
          subst e
          replace hx5 := pw_cell_below (HB.out) hx5
          have HL := Aside0.mk (show ∀ x ∈ alts.getD j [], needOk 6 ks.length x from HX1.out _ (by rw [List.getD_eq_getElem?_getD, List.getElem?_eq_getElem hjt]; exact List.getElem_mem hjt))
          have HAJ := Aside0.mk (show (alts.getD j []).all (meets ks) = true → (alts.any fun l => l.all (meets ks)) = true from fun h => List.any_eq_true.2 ⟨alts.getD j [], by rw [List.getD_eq_getElem?_getD, List.getElem?_eq_getElem hjt]; exact List.getElem_mem hjt, h⟩)
          generalize hy : alts.getD j [] = y at *
          have HY := Aside0.mk hy
          clear hy
          have HC := Aside0.mk (containsN_calls A5 c5 y 48 #[.pointer (some ⟨w.heap.size + 1, 0, none⟩)] (needOk 6 ks.length) (fun x => !meets ks x) wr (Kd.C_below hC5 HB.out) HL.out (sat_pred (w.heap.size + 1) A c ks wr HB2.out (Kd.C_below HK.out HB.out) HS.out) (fun _ _ => rfl))
          clear hC5 hl5
          cases hm : y.all (meets ks) with
          | true =>
            rw [any_not, hm] at HC
            have HAY := Aside0.mk (HAJ.out hm)
            clear hm
            go_wp2_with fail
            refine (HC.out).mono ?_
            rintro E w5 ⟨rfl, hb⟩
            have HB5 := Aside0.mk (below_then HB.out (HB.out).size hb)
            have HB51 := Aside0.mk (blk_below HB1.out hb)
            have HB52 := Aside0.mk (blk_below HB2.out hb)
            have HOR := Aside0.mk (or_bit ho (show q < 6 by have := HN.out; omega))
            clear hb HB HB1 HB2 HC hx5
            go_wp2
            go_roundg (M.length - (q + 1))
            case measure => omega
            case rel =>
              obtain ⟨hv, ho2, hob⟩ := HOR.out
              refine ⟨o ||| 2 ^ q, q + 1, by omega, by omega, by rw [hv], by rw [wrap_succ (by omega) (by have := HN.out; omega)]; rfl, ho2, ⟨fun i hi => ?_⟩, HB5, HB51, HB52⟩
              rw [hob i hi, HO.out i hi]
              by_cases e : i = q
              · subst e
                rw [HSB.out, HAY.out, beq_self_eq_true, Bool.or_true, decide_eq_true (by omega), Bool.and_true]
              · rw [beq_eq_false_iff_ne.2 e, Bool.or_false, show decide (i < q + 1) = decide (i < q) from decide_eq_decide.2 (by omega)]
          | false =>
            rw [any_not, hm] at HC
            have HAY := Aside0.mk hm
            clear hm
            go_wp2_with fail
            refine (HC.out).mono ?_
            rintro E w5 ⟨rfl, hb⟩
            have HB5 := Aside0.mk (below_then HB.out (HB.out).size hb)
            have HB51 := Aside0.mk (blk_below HB1.out hb)
            have HB52 := Aside0.mk (blk_below HB2.out hb)
            clear hb HB HB1 HB2 HC hx5
            go_wp2
            go_roundg (alts.length - (j + 1))
            case measure => omega
            case rel =>
              refine ⟨j + 1, by omega, by omega, rfl, by rw [wrap_succ (by omega) (by have := (HC4.out).2.1; omega)]; rfl, ⟨fun i hi => ?_⟩, HB5, HB51, HB52⟩
              by_cases e : i = j
              · subst e
                rw [HY.out]; exact HAY.out
              · exact HA.out i (by omega)
        · have hjtz : ¬ (j : Int) < (alts.length : Int) := by omega
          have HAN := Aside0.mk (show (alts.any fun l => l.all (meets ks)) = false from any_none_sl (fun i hi => HA.out i (by omega)))
          go_wp2
          go_roundg (M.length - (q + 1))
          case measure => omega
          case rel =>
            refine ⟨o, q + 1, by omega, by omega, rfl, by rw [wrap_succ (by omega) (by have := HN.out; omega)]; rfl, ho, ⟨fun i hi => ?_⟩, HB, HB1, HB2⟩
            rw [HO.out i hi]
            by_cases e : i = q
            · subst e
              rw [HSB.out, HAN.out, Bool.and_false, Bool.and_false]
            · rw [show decide (i < q + 1) = decide (i < q) from decide_eq_decide.2 (by omega)]
    · have hltz : ¬ (q : Int) < (M.length : Int) := by omega
      have hqe : q = M.length := by omega
      subst hqe
      go_wp2
      go_ret
      exact ⟨o, rfl, ho, HO.out, HB.out⟩
end Go.Proofs.YtmphigeefppfpaaDoor.H
