/- auto.Check at an automaton of a specification. -/
import Derived.Test.YtmphigeefppfpaaDoorBi
namespace Go.Proofs.YtmphigeefppfpaaDoor.H
open Go.RowKit Go.Proofs.YtmphigeefppfpaaDoorW.PrintWords Go.Proofs.YtmphigeefppfpaaDoorW.PrintLast Go.Proofs.YtmphigeefppfpaaDoorW.PrintMore
set_option linter.unusedVariables false

theorem risingL_calls (A : Option Addr) (c n : Nat) (v : Value) (w : World) (hn : n ≤ 1) : Calls Tryd.prog 37 #[.slice A n c, v] w fun e w' => e = .returned (.bool true) ∧ Below w.heap.size w w' := by
  have hnz : ¬ (1 : Int) < (n : Int) := by omega
  clear hn
  go_enter Tryd.func37, Tryd.ntmps37
  go_wp2
  go_loopg [5] 0 (fun gg v5 wi => v5 = .int .i64 1 ∧ w = wi)
  case atStart => exact ⟨rfl, rfl⟩
  case round =>
    obtain ⟨rfl, rfl⟩ := hrel
    go_wp2
    go_ret
    exact ⟨rfl, Below.refl _ _⟩
/-- What Check asks. -/
def AuOk (rk : List Int) (M : Mv) : Prop := ranksB rk = true ∧ 1 ≤ M.length ∧ MvOk rk M ∧ ∀ q f : Nat, q < M.length → f < rk.length → (altsAt M q f).length ≤ 1 ∧ ∀ l ∈ altsAt M q f, l.length ≤ 24 ∧ ∀ i, i + 1 < l.length → (l.getD i zN).f0 < (l.getD (i + 1) zN).f0
theorem rank_le {rk : List Int} (h : ranksB rk = true) {f : Nat} (hf : f < rk.length) : 0 ≤ rd rk (f : Int) ∧ rd rk (f : Int) ≤ 4 := by
  unfold ranksB at h
  have hm := rd_mem (xs := rk) hf
  generalize rd rk (f : Int) = r at *
  simp only [Bool.and_eq_true, List.all_eq_true, decide_eq_true_eq] at h
  exact h.1 r hm
theorem getD_memA {α : Type} {xs : List (List α)} {k : Nat} (h : k < xs.length) : xs.getD k [] ∈ xs := by
  rw [List.getD_eq_getElem?_getD, List.getElem?_eq_getElem h]; exact List.getElem_mem h
theorem bad_pred (f n : Nat) (ba bf bn : Nat) (rk : List Int) (A1 : Option Addr) (c1 : Nat) (v1 v2 : Value) (w : World) (ha : w.heap[ba]? = some (.cells #[.slice A1 rk.length c1, v1, v2] 31 (0, 0))) (hbf : w.heap[bf]? = some (.cells #[.int .i64 (f : Int)] 3 (0, 0))) (hbn : w.heap[bn]? = some (.cells #[.int .i64 (n : Int)] 3 (0, 0)))
    (hr : Kd.C (Kd.int .i64) w A1 rk.length rk) (hf : f < rk.length) :
    PredN 33 #[.pointer (some ⟨ba, 0, none⟩), .pointer (some ⟨bf, 0, none⟩), .pointer (some ⟨bn, 0, none⟩)] (needOk n (rd rk (f : Int)).toNat) (fun _ => false) w := by
  rintro W x hW ⟨k, s, hk, hs, rfl⟩
  exact bad1_calls k s f n ba bf bn rk A1 c1 v1 v2 W (blk_below ha hW) (blk_below hbf hW) (blk_below hbn hW) (Kd.C_below hr hW) hf (by omega) hs
set_option maxHeartbeats 8000000 in
set_option maxRecDepth 100000 in
theorem acheck_calls (rk : List Int) (M : Mv) (st : Int) (A1 : Option Addr) (c1 : Nat) (A2 : Option Addr) (c2 : Nat) (w : World) (hok : AuOk rk M) (hs0 : 0 ≤ st) (hs1 : st < (M.length : Int))
    (hr : Kd.C (Kd.int .i64) w A1 rk.length rk) (hc1 : rk.length ≤ c1) (hM : Kd.C kA3 w A2 M.length M) :
    Calls Tryd.prog 28 #[.agg #[.slice A1 rk.length c1, .int .i64 st, .slice A2 M.length c2]] w fun e w' => e = .returned (.int .i64 0) ∧ Below w.heap.size w w' := by
  have hmf := run_mkfun
  have HOK := Aside0.mk hok
  have HR := Aside0.mk hr
  have HM := Aside0.mk hM
  have HRA := Aside0.mk fun W (hW : Below w.heap.size w W) => ranks_calls A1 c1 rk W (Kd.C_below hr hW) hc1
  rw [hok.1] at HRA
  have q1 : decide ((M.length : Int) < 1) = false := decide_eq_false (by have := hok.2.1; omega)
  have q2 : decide ((M.length : Int) > 6) = false := decide_eq_false (by have := hok.2.2.1.1; omega)
  have q3 : decide (st < 0) = false := decide_eq_false (by omega)
  have q4 : decide (st ≥ (M.length : Int)) = false := decide_eq_false (by omega)
  have ha := below_alloc (below_alloc (Below.refl w.heap.size w) (.cells #[.slice A1 rk.length c1, .int .i64 st, .slice A2 M.length c2] 31)) (.cells #[.int .i64 (M.length : Int)] 3)
  have hb1 := blk_alloc (blk_new w (.cells #[.slice A1 rk.length c1, .int .i64 st, .slice A2 M.length c2] 31)) (.cells #[.int .i64 (M.length : Int)] 3)
  have hb2 := blk_at2 w (.cells #[.slice A1 rk.length c1, .int .i64 st, .slice A2 M.length c2] 31) (.cells #[.int .i64 (M.length : Int)] 3)
  have HB := Aside0.mk ha
  have HB1 := Aside0.mk hb1
  have HB2 := Aside0.mk hb2
  have hk0 : (w.alloc (.cells #[.slice A1 rk.length c1, .int .i64 st, .slice A2 M.length c2] 31)).cell? ⟨w.heap.size, 2, none⟩ = some (.slice A2 M.length c2) := (blk_cell (blk_new w (.cells #[.slice A1 rk.length c1, .int .i64 st, .slice A2 M.length c2] 31)) 2).trans rfl
  clear hok hs0 hs1 hr hc1 hM ha hb1 hb2
  go_enter Tryd.func28, Tryd.ntmps28
  go_upto_region 2 with (fail)
  generalize ((w.alloc (.cells #[.slice A1 rk.length c1, .int .i64 st, .slice A2 M.length c2] 31)).alloc (.cells #[.int .i64 (M.length : Int)] 3)) = W1 at *
  clear hk0
  have hk0 : W1.cell? ⟨w.heap.size, 0, none⟩ = some (.slice A1 rk.length c1) := (blk_cell HB1.out 0).trans rfl
  have hk1 : W1.cell? ⟨w.heap.size, 1, none⟩ = some (.int .i64 st) := (blk_cell HB1.out 1).trans rfl
  have hk2 : W1.cell? ⟨w.heap.size + 1, 0, none⟩ = some (.int .i64 (M.length : Int)) := (blk_cell HB2.out 0).trans rfl
  go_wp2_with fail
  refine (HRA.out _ HB.out).mono ?_
  rintro E w2 ⟨rfl, hb⟩
  have n0_ := Aside0.mk (below_then HB.out (HB.out).size hb)
  have n1_ := Aside0.mk (blk_below HB1.out hb)
  have n2_ := Aside0.mk (blk_below HB2.out hb)
  clear HB HB1 HB2 hb hk0 hk1 hk2 HRA
  have hk0 : w2.cell? ⟨w.heap.size, 0, none⟩ = some (.slice A1 rk.length c1) := (blk_cell n1_.out 0).trans rfl
  have hk1 : w2.cell? ⟨w.heap.size, 1, none⟩ = some (.int .i64 st) := (blk_cell n1_.out 1).trans rfl
  have hk2 : w2.cell? ⟨w.heap.size + 1, 0, none⟩ = some (.int .i64 (M.length : Int)) := (blk_cell n2_.out 0).trans rfl
  have hk3 : w2.cell? ⟨w.heap.size, 2, none⟩ = some (.slice A2 M.length c2) := (blk_cell n1_.out 2).trans rfl
  go_wp2
  clear hk0 hk1 hk2 hk3 q1 q2 q3 q4
  go_loopg [40] M.length (fun gg v40 wi => ∃ q : Nat, q ≤ M.length ∧ M.length - q ≤ gg ∧ v40 = .int .i64 q ∧ Aside0 (Below w.heap.size w wi) ∧ Aside0 (wi.heap[w.heap.size]? = some (.cells #[.slice A1 rk.length c1, .int .i64 st, .slice A2 M.length c2] 31 (0, 0))) ∧ Aside0 (wi.heap[w.heap.size + 1]? = some (.cells #[.int .i64 (M.length : Int)] 3 (0, 0))))
  case atStart => exact ⟨0, by omega, by omega, rfl, n0_, n1_, n2_⟩
  case round =>
    clear n0_ n1_ n2_
    obtain ⟨q, hq, hgg, rfl, HB, HB1, HB2⟩ := hrel
    by_cases hlt : q < M.length
    · have hltz : (q : Int) < (M.length : Int) := by omega
      obtain ⟨ad, A3, c3, e, hx1, hl3, hC3⟩ := at_sl HM.out q hlt
      subst e
      rw [(HOK.out).2.2.1.2.1 q hlt] at hx1 hC3
      replace hx1 := pw_cell_below (HB.out) hx1
      have HC3 := Aside0.mk hC3
      have HQ := Aside0.mk (show ∀ f : Nat, f < rk.length → ((M.getD q []).getD f []).length ≤ 1 ∧ ∀ l ∈ (M.getD q []).getD f [], l.length ≤ 24 ∧ (∀ i, i + 1 < l.length → (l.getD i zN).f0 < (l.getD (i + 1) zN).f0) ∧ ∀ x ∈ l, needOk M.length (rd rk (f : Int)).toNat x from fun f hf => ⟨((HOK.out).2.2.2 q f hlt hf).1, fun l hl => ⟨(((HOK.out).2.2.2 q f hlt hf).2 l hl).1, (((HOK.out).2.2.2 q f hlt hf).2 l hl).2, (HOK.out).2.2.1.2.2 q f hlt hf l hl⟩⟩)
      have hk0 : wr.cell? ⟨w.heap.size, 0, none⟩ = some (.slice A1 rk.length c1) := (blk_cell HB1.out 0).trans rfl
      clear hC3 hl3
      generalize M.getD q [] = row at *
      go_wp2
      clear hk0 hx1
      go_loopg [52] rk.length (fun gg2 v52 wi => ∃ f : Nat, f ≤ rk.length ∧ rk.length - f ≤ gg2 ∧ v52 = .int .i64 f ∧ Aside0 (Below w.heap.size w wi) ∧ Aside0 (wi.heap[w.heap.size]? = some (.cells #[.slice A1 rk.length c1, .int .i64 st, .slice (some ad) M.length c2] 31 (0, 0))) ∧ Aside0 (wi.heap[w.heap.size + 1]? = some (.cells #[.int .i64 (M.length : Int)] 3 (0, 0))))
      case atStart => exact ⟨0, by omega, by omega, rfl, HB, HB1, HB2⟩
      case round =>
        clear HB HB1 HB2
        obtain ⟨f, hf, hgg2, rfl, HB, HB1, HB2⟩ := hrel
        by_cases hft : f < rk.length
        · have hftz : (f : Int) < (rk.length : Int) := by omega
          obtain ⟨ad4, A4, c4, e, hx2, hl4, hC4⟩ := at_sl HC3.out f hft
          subst e
          replace hx2 := pw_cell_below (HB.out) hx2
          have HC4 := Aside0.mk hC4
          have HF := Aside0.mk (HQ.out f hft)
          clear hC4 hl4
          generalize row.getD f [] = alts at *
          have h12 : ¬ (alts.length : Int) > 12 := by have := (HF.out).1; omega
          go_upto_region 12 with (fail)
          have ha := below_alloc (Below.refl wr.heap.size wr) (.cells #[.int .i64 (f : Int)] 3)
          have n0_ := Aside0.mk (below_then HB.out (HB.out).size ha)
          have n1_ := Aside0.mk (blk_below HB1.out ha)
          have n2_ := Aside0.mk (blk_below HB2.out ha)
          have n3_ := Aside0.mk (blk_new wr (.cells #[.int .i64 (f : Int)] 3))
          clear ha HB HB1 HB2 hx2
          generalize (wr.alloc (.cells #[.int .i64 (f : Int)] 3)) = w5 at *
          generalize wr.heap.size = b6 at *
          go_wp2
          clear h12
          go_loopg [62] alts.length (fun gg3 v62 wi => ∃ j : Nat, j ≤ alts.length ∧ alts.length - j ≤ gg3 ∧ v62 = .int .i64 j ∧ Aside0 (Below w.heap.size w wi) ∧ Aside0 (wi.heap[w.heap.size]? = some (.cells #[.slice A1 rk.length c1, .int .i64 st, .slice (some ad) M.length c2] 31 (0, 0))) ∧ Aside0 (wi.heap[w.heap.size + 1]? = some (.cells #[.int .i64 (M.length : Int)] 3 (0, 0))) ∧ Aside0 (wi.heap[b6]? = some (.cells #[.int .i64 (f : Int)] 3 (0, 0))))
          case atStart => exact ⟨0, by omega, by omega, rfl, n0_, n1_, n2_, n3_⟩
          case round =>
            clear n0_ n1_ n2_ n3_
            obtain ⟨j, hj, hgg3, rfl, HB, HB1, HB2, HB3⟩ := hrel
            by_cases hjt : j < alts.length
            · have hjtz : (j : Int) < (alts.length : Int) := by omega
              obtain ⟨ad5, A5, c5, e, hx5, hl5, hC5⟩ := at_sl HC4.out j hjt
              subst e
              replace hx5 := pw_cell_below (HB.out) hx5
              have HL := Aside0.mk ((HF.out).2 _ (getD_memA hjt))
              generalize alts.getD j [] = l at *
              have HCN := Aside0.mk (containsN_calls A5 c5 l 33 #[.pointer (some ⟨w.heap.size, 0, none⟩), .pointer (some ⟨b6, 0, none⟩), .pointer (some ⟨w.heap.size + 1, 0, none⟩)] (needOk M.length (rd rk (f : Int)).toNat) (fun _ => false) wr (Kd.C_below hC5 HB.out) (HL.out).2.2 (bad_pred f M.length w.heap.size b6 (w.heap.size + 1) rk A1 c1 (.int .i64 st) (.slice (some ad) M.length c2) wr HB1.out HB3.out HB2.out (Kd.C_below HR.out HB.out) hft) (fun _ _ => rfl))
              rw [show (l.any fun _ => false) = false from List.any_eq_false.2 fun _ _ => by simp] at HCN
              have HRI := Aside0.mk fun W (hW : Below w.heap.size w W) => rising_calls A5 c5 l W (Kd.C_below hC5 hW) (HL.out).1 (fun x hx => by obtain ⟨k, s, hk, hs, e⟩ := (HL.out).2.2 x hx; subst e; have h4 := rank_le (HOK.out).1 hft; exact ⟨by simp, by simp; omega⟩) (HL.out).2.1
              have q5 : decide ((l.length : Int) > 24) = false := decide_eq_false (by have := (HL.out).1; omega)
              clear hC5 hl5
              go_wp2_with fail
              refine (HCN.out).mono ?_
              rintro E w6 ⟨rfl, hb⟩
              have n0_ := Aside0.mk (below_then HB.out (HB.out).size hb)
              have n1_ := Aside0.mk (blk_below HB1.out hb)
              have n2_ := Aside0.mk (blk_below HB2.out hb)
              have n3_ := Aside0.mk (blk_below HB3.out hb)
              clear HB HB1 HB2 HB3 hb HCN hx5
              go_wp2_with fail
              refine (HRI.out _ n0_.out).mono ?_
              rintro E w7 ⟨rfl, hb⟩
              have HB := Aside0.mk (below_then n0_.out (n0_.out).size hb)
              have HB1 := Aside0.mk (blk_below n1_.out hb)
              have HB2 := Aside0.mk (blk_below n2_.out hb)
              have HB3 := Aside0.mk (blk_below n3_.out hb)
              clear n0_ n1_ n2_ n3_ hb HRI q5
              go_wp2
              go_roundg (alts.length - (j + 1))
              case measure => omega
              case rel => exact ⟨j + 1, by omega, by omega, by rw [wrap_succ (by omega) (by have := (HF.out).1; omega)]; rfl, HB, HB1, HB2, HB3⟩
            · have hjtz : ¬ (j : Int) < (alts.length : Int) := by omega
              go_wp2_with fail
              refine (risingL_calls _ _ alts.length _ _ (HF.out).1).mono ?_
              rintro E w7 ⟨rfl, hb⟩
              have n0_ := Aside0.mk (below_then HB.out (HB.out).size hb)
              have n1_ := Aside0.mk (blk_below HB1.out hb)
              have n2_ := Aside0.mk (blk_below HB2.out hb)
              clear HB HB1 HB2 HB3 hb
              go_wp2
              go_roundg (rk.length - (f + 1))
              case measure => omega
              case rel => exact ⟨f + 1, by omega, by omega, by rw [wrap_succ (by omega) (by have := (HR.out).2.1; omega)]; rfl, n0_, n1_, n2_⟩
        · have hftz : ¬ (f : Int) < (rk.length : Int) := by omega
          go_wp2
          go_roundg (M.length - (q + 1))
          case measure => omega
          case rel => exact ⟨q + 1, by omega, by omega, by rw [wrap_succ (by omega) (by have := (HOK.out).2.2.1.1; omega)]; rfl, HB, HB1, HB2⟩
    · have hltz : ¬ (q : Int) < (M.length : Int) := by omega
      go_wp2
      go_ret
      exact ⟨rfl, HB.out⟩
end Go.Proofs.YtmphigeefppfpaaDoor.H
