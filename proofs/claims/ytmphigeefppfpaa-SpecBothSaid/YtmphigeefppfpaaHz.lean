/- The reference's least, walked. -/
import Derived.Test.YtmphigeefppfpaaHy
namespace Go.Proofs.Ytmphigeefppfpaa.H
open Go.RowKit Go.Proofs.YtmphigeefppfpaaW.PrintWords Go.Proofs.YtmphigeefppfpaaW.PrintLast Go.Proofs.YtmphigeefppfpaaW.PrintMore
set_option linter.unusedVariables false

theorem place_snoc {q : List Int} {y : Int} (h : y ∉ q) : place y (q ++ [y]) = q.length := by
  simp [place, List.idxOf_append, h]
theorem stepR_dom {n : Nat} {l : List (List Int)} {K : List Int} (hl : tableOk n l) (hK : K.length = l.length) (hr : ∀ x ∈ K, 0 ≤ x ∧ x < (l.length : Int)) : ∀ (x : Int) (e : Nat), domS l x → e < n → (stepR l K x e).2 = true → domS l (stepR l K x e).1 := by
  intro x e hx he h
  obtain ⟨lx, rx⟩ := trow hl hx
  have hst : stepS l x e = (rd (Q.rd_L1 l x) e, decide (rd (Q.rd_L1 l x) e ≥ 0)) := rfl
  have hr1 := rx _ (rd_mem (k := e) (by omega))
  unfold stepR at h ⊢
  rw [hst] at h ⊢
  by_cases h0 : rd (Q.rd_L1 l x) e ≥ 0
  · simp only [decide_eq_true h0, if_true]
    obtain ⟨s, hs⟩ : ∃ s : Nat, rd (Q.rd_L1 l x) e = s := ⟨(rd (Q.rd_L1 l x) e).toNat, by omega⟩
    rw [hs]
    exact hr _ (rd_mem (by omega))
  · simp [h0] at h
set_option maxHeartbeats 8000000 in
set_option maxRecDepth 100000 in
theorem rleast_calls (n : Nat) (st : Int) (A : Option Addr) (cl : Nat) (l : List (List Int)) (w : World) (hr : Kd.C (Kd.slice 3 (Kd.int .i64)) w A l.length l) (hcl : l.length ≤ cl) (hl : tableOk n l) (hn : n ≤ 16) (hN0 : 1 ≤ l.length) (hN1 : l.length ≤ 5000) (hst : domS l st) :
    Calls Try.prog 50 #[.agg #[.int .i64 n, .int .i64 st, .slice A l.length cl]] w (RLeastEnd n l st w) := by
  have HR := Aside0.mk hr
  have HT := Aside0.mk hl
  have HS := Aside0.mk hst
  clear hr hl hst
  have hB := Aside0.mk (RB.mk (w := w) (n := n) (st := st) (sv := .slice A l.length cl) (rv := .slice none 0 0) (below_alloc (below_alloc (Below.refl _ _) (.cells #[.int .i64 n, .int .i64 st, .slice A l.length cl] 24)) (.cells #[.int .i64 0, .int .i64 0, .slice none 0 0] 24))
    (blk_alloc (blk_new _ _) _) (blk_at2 _ _ _))
  go_enter Try.func50, Try.ntmps50
  go_upto_region 1 with (fail)
  generalize ((w.alloc (.cells #[.int .i64 n, .int .i64 st, .slice A l.length cl] 24)).alloc (.cells #[.int .i64 0, .int .i64 0, .slice none 0 0] 24)) = w0 at *
  have hz0 : w0.cell? ⟨w.heap.size, 2, none⟩ = some (.slice A l.length cl) := (blk_cell (hB.out).hs 2).trans rfl
  go_upto_region 2 with ((with_reducible refine gate_dst (N := 18) rfl ?_); refine Kd.R_make (Kd.int .i64) w.heap.size 3 rfl (N := 18) rfl 25 _ _ rfl (l.length : Int) rfl rfl Try.underlying25 (.int .i64 0) 8 info3 rfl (by decide) (by omega) 0 (ok := fun k => w0.heap.size ≤ k) (okp := fun _ => False) rfl (fun _ hk => hk.elim) (Nat.le_refl _) (by omega) (by omega) (hB.out).hb ((hB.out).hb).size ?_; intro v1 w1 hr1 hb1 hg1 hnew1)
  rw [Int.toNat_natCast] at hr1
  have hB1 := Aside0.mk (RB.mk hb1 (blk_grown (hB.out).hs hg1 (by simp)) (blk_grown (hB.out).hr hg1 (by simp)) : RB w w1 n st (.slice A l.length cl) (.slice none 0 0))
  have HC1 := Aside0.mk hr1
  clear hb1 hg1 hr1 hnew1 hB hz0
  have hz0 : w1.cell? ⟨w.heap.size, 2, none⟩ = some (.slice A l.length cl) := (blk_cell (hB1.out).hs 2).trans rfl
  go_wp2
  clear hz0
  go_loopg [3, 22] l.length (fun gg v3 v22 wi => ∃ (k : Nat) (Sc : Nat → Prop), k ≤ l.length ∧ l.length - k ≤ gg ∧ v22 = .int .i64 k ∧ Aside0 (RB w wi n st (.slice A l.length cl) (.slice none 0 0)) ∧ Aside0 (Kd.R (Kd.int .i64) 3 wi w.heap.size Sc v3 (refCls n l k)))
  case atStart => exact ⟨0, _, by omega, by omega, rfl, hB1, HC1⟩
  case round =>
    clear hB1 HC1
    obtain ⟨k, Sc, hkl, hgg, rfl, HB, HC⟩ := hrel
    have hcl0 := refCls_len n l k
    obtain ⟨Ac, cc, hcv⟩ := Kd.R_slice HC.out
    rw [hcl0] at hcv
    subst hcv
    have HCL := Aside0.mk hcl0
    clear hcl0
    by_cases hkt : k < l.length
    · have hktz : (k : Int) < (l.length : Int) := by omega
      have hz0 : wr.cell? ⟨w.heap.size, 2, none⟩ = some (.slice A l.length cl) := (blk_cell (HB.out).hs 2).trans rfl
      go_upto_region 5 with ((with_reducible refine gate_dst (N := 27) rfl ?_); refine Kd.R_make (Kd.int .i64) w.heap.size 3 rfl (N := 27) rfl 25 _ _ rfl (l.length : Int) rfl rfl Try.underlying25 (.int .i64 0) 8 info3 rfl (by decide) (by omega) 0 (ok := fun k => wr.heap.size ≤ k) (okp := fun _ => False) rfl (fun _ hk => hk.elim) (Nat.le_refl _) (by omega) (by omega) (HB.out).hb ((HB.out).hb).size ?_; intro v3 w3 hr3 hb3 hg3 hnew3)
      rw [Int.toNat_natCast] at hr3
      obtain ⟨nb, hnb, _⟩ := hnew3
      obtain ⟨cn, hv3⟩ := R_formB hr3 hnb
      rw [List.length_replicate] at hv3
      subst hv3
      have hB3 := Aside0.mk (RB.mk hb3 (blk_grown (HB.out).hs hg3 (by simp)) (blk_grown (HB.out).hr hg3 (by simp)) : RB w w3 n st (.slice A l.length cl) (.slice none 0 0))
      have HN3 := Aside0.mk hr3
      have HC3 := Aside0.mk (R_stay HC.out hg3 (by simp))
      have HD3 := Aside0.mk (show Disj (fun k => Sc k ∧ k < wr.heap.size) (fun k => wr.heap.size ≤ k) from fun k ha hb => by have := ha.2; omega)
      clear hb3 hg3 hr3 hnb HB HC hz0
      generalize (fun k => Sc k ∧ k < wr.heap.size) = Sc3 at *
      generalize (fun k => wr.heap.size ≤ k) = Sn3 at *
      have hz0 : w3.cell? ⟨w.heap.size, 2, none⟩ = some (.slice A l.length cl) := (blk_cell (hB3.out).hs 2).trans rfl
      go_wp2
      clear hz0
      go_loopg [31] l.length (fun gg2 v31 wi => ∃ (q : Nat) (Sc Sn : Nat → Prop), q ≤ l.length ∧ l.length - q ≤ gg2 ∧ v31 = .int .i64 q ∧ Aside0 (RB w wi n st (.slice A l.length cl) (.slice none 0 0)) ∧ Aside0 (Disj Sc Sn) ∧ Aside0 (Kd.R (Kd.int .i64) 3 wi w.heap.size Sc (.slice Ac l.length cc) (refCls n l k)) ∧
        Aside0 (Kd.R (Kd.int .i64) 3 wi w.heap.size Sn (.slice (some ⟨nb, 0, none⟩) l.length cn) (refNext n l (refCls n l k) q ++ List.replicate (l.length - q) 0)))
      case atStart => exact ⟨0, Sc3, Sn3, by omega, by omega, rfl, hB3, HD3, HC3, HN3⟩
      case round =>
        clear hB3 HD3 HC3 HN3
        obtain ⟨q, Sc, Sn, hql, hg2, rfl, HB, HD, HC, HN⟩ := hrel
        by_cases hqt : q < l.length
        · have hqtz : (q : Int) < (l.length : Int) := by omega
          have hrl := refNext_len n l (refCls n l k) q
          obtain ⟨hc1, hf1⟩ := Kd.R_celln 0 HN.out (q : Int) (by omega) (by omega)
          rw [Int.toNat_natCast] at hc1 hf1
          have HPUT := Kd.R_putg HN.out (q : Int) (q : Int)
          rw [Int.toNat_natCast, set_next hrl hqt] at HPUT
          have HRL := Aside0.mk hrl
          have HNB := Aside0.mk (HN.out.1 nb rfl)
          clear hrl
          go_upto_region 10 with (fail)
          have hB5 := Aside0.mk ((HB.out).own HN.out (by decide) HPUT.2)
          have HC5 := Aside0.mk (R_stay HC.out HPUT.2 (fun k hk => by cases hk; exact fun h => (HD.out) _ h HNB.out))
          have HN5 := Aside0.mk HPUT.1
          have HD5 := Aside0.mk (show Disj (fun k => Sc k ∧ k < wr.heap.size) Sn from fun k ha hb => HD.out k ha.1 hb)
          clear HB HC HN HD HPUT hc1 hf1
          generalize (wr.setCell ⟨nb, q, none⟩ (Value.int .i64 (q : Int))) = w5 at *
          generalize (fun k => Sc k ∧ k < wr.heap.size) = Sc5 at *
          go_loopg [6] q (fun gg3 v6 wi => ∃ (d : Nat) (t : Int) (Sc Sn : Nat → Prop), d ≤ q ∧ q - d ≤ gg3 ∧ v6 = .int .i64 t ∧ -1 ≤ t ∧ t < (q : Int) ∧ Aside0 (t = (q : Int) - 1 - d) ∧ Aside0 (RB w wi n st (.slice A l.length cl) (.slice none 0 0)) ∧ Aside0 (Disj Sc Sn) ∧ Aside0 (Kd.R (Kd.int .i64) 3 wi w.heap.size Sc (.slice Ac l.length cc) (refCls n l k)) ∧
            Aside0 (Kd.R (Kd.int .i64) 3 wi w.heap.size Sn (.slice (some ⟨nb, 0, none⟩) l.length cn) ((refNext n l (refCls n l k) q ++ [(lowTo (relB n l (refCls n l k) q) q d : Int)]) ++ List.replicate (l.length - (q + 1)) 0)))
          case atStart => exact ⟨0, (q : Int) - 1, Sc5, Sn, by omega, by omega, rfl, by omega, by omega, ⟨by omega⟩, hB5, HD5, HC5, HN5⟩
          case round =>
            clear hB5 HD5 HC5 HN5 HNB Sc5 Sc Sn
            obtain ⟨d, t, Sc, Sn, hdq, hg3, rfl, ht0, ht1, HTD, HB, HD, HC, HN⟩ := hrel
            by_cases htn : 0 ≤ t
            · have htd : decide (t ≥ 0) = true := by simpa using htn
              obtain ⟨p, rfl⟩ : ∃ p : Nat, t = (p : Int) := ⟨t.toNat, by omega⟩
              have HPD := Aside0.mk (show p = q - 1 - d by have := HTD.out; omega)
              have hdlt : d < q := by have := HTD.out; omega
              have hlow := Aside0.mk (show lowTo (relB n l (refCls n l k) q) q (d + 1) = if relB n l (refCls n l k) q p then p else lowTo (relB n l (refCls n l k) q) q d from by rw [HPD.out]; rfl)
              have hclen := HCL.out
              obtain ⟨adc, e0, hxp⟩ := Kd.at_int (Kd.R_reads' HC.out).2.2 (p : Int) (by omega) (by omega)
              cases e0
              obtain ⟨_, e0, hxq⟩ := Kd.at_int (Kd.R_reads' HC.out).2.2 (q : Int) (by omega) (by omega)
              cases e0
              rw [Int.toNat_natCast] at hxp hxq
              clear hclen
              have hpz : (p : Int) < (l.length : Int) := by omega
              by_cases hcc : rd (refCls n l k) (p : Int) = rd (refCls n l k) (q : Int)
              · have hd1 : (rd (refCls n l k) (p : Int) == rd (refCls n l k) (q : Int)) = true := beq_iff_eq.2 hcc
                have HRB := Aside0.mk (show relB n l (refCls n l k) q p = alikeB n l (refCls n l k) p q from by rw [relB, decide_eq_true hcc, Bool.true_and])
                clear hcc
                have HAL := Aside0.mk fun W (hW : Below w.heap.size w W) (hC : Kd.R (Kd.int .i64) 3 W w.heap.size Sc (.slice (some adc) l.length cc) (refCls n l k)) =>
                  alike_calls n st A cl l p q (some adc) cc (refCls n l k) W (Kd.C_below HR.out hW) hcl (by have h := (Kd.R_reads' hC).2.2; have e := HCL.out; rw [e]; rw [e] at h; exact h) (by rw [HCL.out]; exact (Kd.R_reads' hC).2.1) HT.out (by omega) HCL.out ⟨by omega, by omega⟩ ⟨by omega, by omega⟩
                rw [HCL.out] at HAL
                generalize alikeB n l (refCls n l k) p q = al at *
                have HB0 := (HB.out).below (W1 := wr.drew) (below_drew (Below.refl _ _))
                have HC0 := Kd.R_drew HC.out
                have HN0 := Kd.R_drew HN.out
                go_wp2
                go_region_held3 (fun w' => (w'.cell? (adc.add p) = some (.int .i64 (rd (refCls n l k) (p : Int))) ∧ w'.cell? (adc.add q) = some (.int .i64 (rd (refCls n l k) (q : Int)))) ∧ (w'.cell? ⟨w.heap.size, 0, none⟩ = some (.int .i64 n) ∧ w'.cell? ⟨w.heap.size, 1, none⟩ = some (.int .i64 st) ∧ w'.cell? ⟨w.heap.size, 2, none⟩ = some (.slice A l.length cl)))
                  (exact ref_held (by assumption) (by assumption) HCL.out (by omega) (by omega))
                  (first
                    | (go_at_call 66; refine (HAL.out _ HB0.hb HC0).mono ?_; rintro E w6 ⟨rfl, hb⟩; have HB1 := HB0.below hb; have HC1 := Kd.R_below HC0 hb; have HN1 := Kd.R_below HN0 hb; clear hb HB0 HC0 HN0))
                cases al
                · go_wp2
                  go_roundg (q - (d + 1))
                  case measure => omega
                  case rel =>
                    refine ⟨d + 1, (p : Int) - 1, Sc, Sn, by omega, by omega, rfl, by omega, by omega, ⟨by have := HTD.out; omega⟩, ⟨HB1⟩, HD, ⟨HC1⟩, ?_⟩
                    rw [hlow.out, HRB.out]
                    exact ⟨HN1⟩
                · obtain ⟨hc1, hf1⟩ := Kd.R_celln 0 HN1 (q : Int) (by omega) (by omega)
                  rw [Int.toNat_natCast] at hc1 hf1
                  have HPUT := Kd.R_putg HN1 (q : Int) (p : Int)
                  rw [Int.toNat_natCast, set_last HRL.out] at HPUT
                  have HB2 := Aside0.mk (HB1.own HN1 (by decide) HPUT.2)
                  have HC2 := Aside0.mk (R_stay HC1 HPUT.2 (fun k hk => by cases hk; exact fun h => HD.out _ h (HN1.1 nb rfl)))
                  have HN2 := Aside0.mk HPUT.1
                  have HD2 := Aside0.mk (show Disj (fun k => Sc k ∧ k < w6.heap.size) Sn from fun k ha hb => HD.out k ha.1 hb)
                  clear HB1 HC1 HN1 HD HPUT
                  go_wp2
                  go_roundg (q - (d + 1))
                  case measure => omega
                  case rel =>
                    refine ⟨d + 1, (p : Int) - 1, fun k => Sc k ∧ k < w6.heap.size, Sn, by omega, by omega, rfl, by omega, by omega, ⟨by have := HTD.out; omega⟩, HB2, HD2, HC2, ?_⟩
                    rw [hlow.out, HRB.out]
                    exact HN2
              · have hd1 : (rd (refCls n l k) (p : Int) == rd (refCls n l k) (q : Int)) = false := beq_eq_false_iff_ne.2 hcc
                have HRB := Aside0.mk (show relB n l (refCls n l k) q p = false from by rw [relB, decide_eq_false hcc, Bool.false_and])
                clear hcc
                go_wp2
                repeat (go_quiet (fail); try go_wp2)
                go_roundg (q - (d + 1))
                case measure => omega
                case rel =>
                  refine ⟨d + 1, (p : Int) - 1, Sc, Sn, by omega, by omega, rfl, by omega, by omega, ⟨by have := HTD.out; omega⟩, ⟨(HB.out).below (pw_below_drewN (Below.refl _ _) _)⟩, HD, ⟨Kd.R_drewN HC.out _⟩, ?_⟩
                  rw [hlow.out, HRB.out]
                  exact ⟨Kd.R_drewN HN.out _⟩
            · have htd : decide (t ≥ 0) = false := by simpa using htn
              have HDQ := Aside0.mk (show d = q by have := HTD.out; omega)
              go_wp2
              go_roundg (l.length - (q + 1))
              case measure => omega
              case rel =>
                refine ⟨q + 1, Sc, Sn, by omega, by omega, by go_num, HB, HD, HC, ?_⟩
                rw [HDQ.out] at HN
                exact HN
        · have hqtz : ¬ (q : Int) < (l.length : Int) := by omega
          obtain rfl : q = l.length := by omega
          rw [Nat.sub_self, List.replicate_zero, List.append_nil] at HN
          go_wp2
          go_roundg (l.length - (k + 1))
          case measure => omega
          case rel => exact ⟨k + 1, Sn, by omega, by omega, by go_num, HB, HN⟩
    · have hktz : ¬ (k : Int) < (l.length : Int) := by omega
      obtain rfl : k = l.length := by omega
      have HKR := Aside0.mk (refCls_range n l hN0 l.length)
      have HKC := Aside0.mk (Kd.R_reads' HC.out)
      have HRL := Aside0.mk (show rleastOf n l st = (bfsTo n (stepR l (refCls n l l.length)) (rd (refCls n l l.length) st) l.length).1 from rfl)
      clear HC Sc
      generalize refCls n l l.length = K at *
      have HWL := Aside0.mk ((HB.out).hb).size
      generalize wr = WL at *
      have hz0 : WL.cell? ⟨w.heap.size, 2, none⟩ = some (.slice A l.length cl) := (blk_cell (HB.out).hs 2).trans rfl
      go_upto_region 18 with ((with_reducible refine gate_dst (N := 70) rfl ?_); refine Kd.R_make (Kd.int .i64) WL.heap.size 3 rfl (N := 70) rfl 25 _ _ rfl (l.length : Int) rfl rfl Try.underlying25 (.int .i64 0) 8 info3 rfl (by decide) (by omega) 0 (ok := fun k => WL.heap.size ≤ k) (okp := fun _ => False) rfl (fun _ hk => hk.elim) (Nat.le_refl _) (by omega) (by omega) (Below.refl WL.heap.size WL) (Nat.le_refl _) ?_; intro v7 w7 hr7 hb7 hg7 hnew7)
      rw [Int.toNat_natCast] at hr7
      obtain ⟨nb, hnb, hnb2⟩ := hnew7
      obtain ⟨cn, hv7⟩ := R_formB hr7 hnb
      rw [List.length_replicate] at hv7
      subst hv7
      have HN7 := Aside0.mk (Kd.R_mono (Kd.R_bound hr7) (fun k hk => (hk.2.2.1 : k < w7.heap.size)))
      have HNB := Aside0.mk (show WL.heap.size ≤ nb ∧ nb < w7.heap.size from ⟨hnb2, (HN7.out).1 nb rfl⟩)
      have HB7 := Aside0.mk hb7
      clear hr7 hb7 hg7 hnb hnb2 hz0
      generalize hB1 : w7.heap.size = B1 at *
      have HB1 := Aside0.mk (show B1 ≤ w7.heap.size by omega)
      clear hB1
      go_wp2
      go_loopg [73] l.length (fun gg v73 wi => ∃ (q : Nat), q ≤ l.length ∧ l.length - q ≤ gg ∧ v73 = .int .i64 q ∧ Aside0 (B1 ≤ wi.heap.size) ∧ Aside0 (Below WL.heap.size WL wi) ∧ Aside0 (Kd.R (Kd.int .i64) 3 wi WL.heap.size (fun k => k < B1) (.slice (some ⟨nb, 0, none⟩) l.length cn) (List.replicate q (-1) ++ List.replicate (l.length - q) 0)))
      case atStart => exact ⟨0, by omega, by omega, rfl, HB1, HB7, HN7⟩
      case round =>
        clear HB1 HB7 HN7
        obtain ⟨q, hql, hgg, rfl, HB1, HB7, HN⟩ := hrel
        by_cases hqt : q < l.length
        · have hqtz : (q : Int) < (l.length : Int) := by omega
          obtain ⟨hc1, hf1⟩ := Kd.R_celln 0 HN.out (q : Int) (by omega) (by omega)
          rw [Int.toNat_natCast] at hc1 hf1
          have HPUT := Kd.R_putg HN.out (q : Int) (-1)
          rw [Int.toNat_natCast, set_next (by simp) hqt, ← List.replicate_succ'] at HPUT
          have HPUT := Aside0.mk HPUT
          go_wp2
          go_roundg (l.length - (q + 1))
          case measure => omega
          case rel => exact ⟨q + 1, by omega, by omega, by go_num, ⟨Nat.le_trans HB1.out (HPUT.out).2.size⟩, ⟨pw_below_grown HB7.out _ (HB7.out).size (HPUT.out).2 (fun k hk => by cases hk; exact (HNB.out).1)⟩, ⟨(HPUT.out).1⟩⟩
        · have hqtz : ¬ (q : Int) < (l.length : Int) := by omega
          obtain rfl : q = l.length := by omega
          rw [Nat.sub_self, List.replicate_zero, List.append_nil] at HN
          have HKL := Aside0.mk (show K.length = l.length from HCL.out)
          have hst0 := (HS.out).1
          have hst1 := (HS.out).2
          obtain ⟨adc, e0, hxs⟩ := Kd.at_int (Kd.C_below (HKC.out).2.2 HB7.out) st hst0 (by have := HKL.out; omega)
          cases e0
          have hz1 : wr.cell? ⟨w.heap.size, 1, none⟩ = some (.int .i64 st) := (blk_cell (blk_below (HB.out).hs HB7.out) 1).trans rfl
          have hkr := HKR.out (rd K st) (by obtain ⟨s, hs⟩ : ∃ s : Nat, st = s := ⟨st.toNat, by omega⟩; rw [hs]; exact rd_mem (by have := HKL.out; omega))
          obtain ⟨c0, hc0⟩ : ∃ c0 : Nat, rd K st = c0 := ⟨(rd K st).toNat, by omega⟩
          rw [hc0] at hxs hkr HRL
          have HC0 := Aside0.mk hc0
          clear hc0
          go_upto_region 24 with (fail)
          have HQ9 := Aside0.mk (R_new1 wr c0 B1 HB1.out)
          have HN9 := Aside0.mk (Kd.R_alloc HN.out (.cells #[.int .i64 (c0 : Int)] 3))
          have HB9 := Aside0.mk (below_alloc HB7.out (.cells #[.int .i64 (c0 : Int)] 3))
          have HS9 := Aside0.mk (show B1 ≤ wr.heap.size from HB1.out)
          have HS9' := Aside0.mk (show B1 ≤ (wr.alloc (.cells #[.int .i64 (c0 : Int)] 3)).heap.size by have := HB1.out; simp; omega)
          clear hxs hz1 HN HB7 HB1
          generalize (wr.alloc (.cells #[.int .i64 (c0 : Int)] 3)) = w9 at *
          generalize wr.heap.size = qb at *
          obtain ⟨adc2, e0, hxs⟩ := Kd.at_int (Kd.C_below (HKC.out).2.2 HB9.out) st hst0 (by have := HKL.out; omega)
          cases e0
          rw [HC0.out] at hxs
          have hz1 : w9.cell? ⟨w.heap.size, 1, none⟩ = some (.int .i64 st) := (blk_cell (blk_below (HB.out).hs HB9.out) 1).trans rfl
          obtain ⟨hc1, hf1⟩ := Kd.R_celln 0 HN9.out (c0 : Int) (by omega) (by omega)
          rw [Int.toNat_natCast] at hc1 hf1
          have HPUT := Kd.R_putg HN9.out (c0 : Int) 0
          rw [Int.toNat_natCast] at HPUT
          have HPUT := Aside0.mk HPUT
          go_upto_region 25 with (fail)
          have HB10 := Aside0.mk (pw_below_grown HB9.out _ (HB9.out).size (HPUT.out).2 (fun k hk => by cases hk; exact (HNB.out).1))
          have HQ10 := Aside0.mk (R_high HQ9.out (HPUT.out).2 (fun k hk => by cases hk; exact (HNB.out).2))
          have HS10 := Aside0.mk (Nat.le_trans HS9'.out (HPUT.out).2.size)
          have HN10 := Aside0.mk (HPUT.out).1
          clear HB9 HQ9 HN9 HPUT HS9 HS9' hxs hz1 hc1 hf1
          generalize (w9.setCell ⟨nb, c0, none⟩ (.int .i64 0)) = w10 at *
          have hz1 : w10.cell? ⟨w.heap.size, 0, none⟩ = some (.int .i64 n) := (blk_cell (blk_below (HB.out).hs HB10.out) 0).trans rfl
          go_upto_region 26 with (fail)
          have HRQ := Aside0.mk (RQ.mk (wl := WL) (W := w10.alloc (.cells #[.int .i64 n, .int .i64 0, .slice none 0 0] 24)) (N := l.length) (n := n) (ob := w10.heap.size) (nb := nb) (cn := cn) (B1 := B1) (bv := .slice none 0 0) (qv := .slice (some ⟨qb, 0, none⟩) 1 1) (ov := .slice none 0 0) (rv := .slice none 0 0) (Sq := fun k => k = qb) (So := fun _ => False) (Sr := fun _ => False) (qn := [(c0 : Int)]) (q := [(c0 : Int)]) (o := []) (r := [])
            (below_alloc HB10.out _) ⟨(HNB.out).1, (HNB.out).2, by have := HS10.out; simp; omega, HS10.out⟩ (blk_new _ _) ⟨_, NumIs.start (by omega), Kd.R_alloc HN10.out _⟩ (Kd.R_alloc HQ10.out _) (Kd.R_nil _ _ _ _ _) (Kd.R_nil _ _ _ _ _) (fun _ _ h => h) (fun _ _ h => h) (fun _ _ h => h))
          clear HB10 HQ10 HS10 HN10 hz1
          generalize (w10.alloc (.cells #[.int .i64 n, .int .i64 0, .slice none 0 0] 24)) = w11 at *
          generalize w10.heap.size = ob at *
          have HSTEP := Aside0.mk (stepR_dom HT.out HKL.out HKR.out)
          have HD0 := Aside0.mk (show domS l (c0 : Int) from hkr)
          have HQSZ := Aside0.mk (fun i => bfs_size' (n := n) (D := domS l) (fun x hx => hx) HSTEP.out HD0.out i)
          clear hst0 hst1 hkr HS HC0
          go_wp2
          go_loopg [9, 11] l.length (fun gg v9 v11 wi => ∃ (i : Nat) (ov : Value) (Sq So : Nat → Prop), i ≤ l.length ∧ l.length - i ≤ gg ∧ v11 = .int .i64 i ∧
            Aside0 (RQ WL wi l.length n ob nb cn B1 ov v9 ov (.slice none 0 0) Sq So (fun _ => False) (bfsTo n (stepR l K) (c0 : Int) i).2 (bfsTo n (stepR l K) (c0 : Int) i).2 (bfsTo n (stepR l K) (c0 : Int) i).1 []))
          case atStart => exact ⟨0, _, _, _, by omega, by omega, rfl, HRQ⟩
          case round =>
            clear HRQ
            obtain ⟨i, ov, Sq, So, him, hgg, rfl, HRQ⟩ := hrel
            obtain ⟨A9, c9, rfl⟩ := Kd.R_slice (HRQ.out).hQ
            have hsz := HQSZ.out i
            by_cases hlt : i < (bfsTo n (stepR l K) (c0 : Int) i).2.length
            · have hltz : (i : Int) < ((bfsTo n (stepR l K) (c0 : Int) i).2.length : Int) := by omega
              have HST := Aside0.mk (bfsTo_step (n := n) (step := stepR l K) (start := (c0 : Int)) hlt)
              have HXD := Aside0.mk (bfsTo_all (n := n) (D := domS l) HSTEP.out HD0.out i _ (List.getElem_mem hlt))
              have HQD := Aside0.mk (bfsTo_all (n := n) (D := domS l) HSTEP.out HD0.out i)
              have HOL := Aside0.mk (bfsTo_out (n := n) (step := stepR l K) (start := (c0 : Int)) (i := i))
              have HQM := Aside0.mk (HQSZ.out (i + 1))
              rw [HST.out] at HQM
              have him2 : i + 1 ≤ l.length := by omega
              have hqx := rd_at hlt
              generalize (bfsTo n (stepR l K) (c0 : Int) i).2[i] = x at *
              generalize (bfsTo n (stepR l K) (c0 : Int) i).2 = q at *
              generalize (bfsTo n (stepR l K) (c0 : Int) i).1 = o at *
              obtain ⟨adq, e0, hx⟩ := Kd.at_int (Kd.R_reads' (HRQ.out).hQ).2.2 (i : Int) (by omega) hltz
              cases e0
              rw [Int.toNat_natCast, hqx] at hx
              have hx0 := (HXD.out).1
              have hx1 := (HXD.out).2
              have HXX := Aside0.mk hqx
              clear hqx
              obtain ⟨adl, Ar, cr, e0, hxr0, hlr, hrr⟩ := Q.at_L1 HR.out x hx0 hx1
              cases e0
              have hxr := pw_cell_below (below_then (HB.out).hb HWL.out (HRQ.out).hb) hxr0
              have HRR := Aside0.mk hrr
              have hz1 : wr.cell? ⟨w.heap.size, 2, none⟩ = some (.slice (some adl) l.length cl) := (blk_cell (blk_below (HB.out).hs (HRQ.out).hb) 2).trans rfl
              clear hrr hxr0
              go_wp2
              repeat (go_quiet (fail); try go_wp2)
              have HRN := Aside0.mk ((HRQ.out).drewN nq)
              obtain ⟨hyl, hyr⟩ := trow HT.out ⟨hx0, hx1⟩
              have HSX := Aside0.mk (show ∀ e, stepR l K x e = if rd (Q.rd_L1 l x) e ≥ 0 then (rd K (rd (Q.rd_L1 l x) e), true) else (0, false) from fun e => by
                have hst : stepS l x e = (rd (Q.rd_L1 l x) e, decide (rd (Q.rd_L1 l x) e ≥ 0)) := rfl
                unfold stepR
                rw [hst]
                simp only [decide_eq_true_eq])
              have HYR := Aside0.mk hyr
              have HYL := Aside0.mk hyl
              clear hyl hyr HRQ hxr hz1 hx HXX
              generalize Q.rd_L1 l x = y at *
              generalize (wr.drewN nq) = w12 at *
              go_loopg [9, 12, 111] n (fun gk v9 v12 v111 wi => ∃ (e : Nat) (Sq So Sr : Nat → Prop), e ≤ n ∧ n - e ≤ gk ∧ v111 = .int .i64 e ∧
                Aside0 (RQ WL wi l.length n ob nb cn B1 ov v9 ov v12 Sq So Sr (rowTo (stepR l K) x q e).2 (rowTo (stepR l K) x q e).2 o (rowTo (stepR l K) x q e).1))
              case atStart => exact ⟨0, _, _, _, by omega, by omega, rfl, HRN⟩
              case round =>
                clear HRN Sq So
                obtain ⟨e, Sq, So, Sr, hen, hgk, rfl, HRQ⟩ := hrel
                obtain ⟨A9, c9, rfl⟩ := Kd.R_slice (HRQ.out).hQ
                obtain ⟨A12, c12, rfl⟩ := Kd.R_slice (HRQ.out).hR
                by_cases hle : e < n
                · have hlez : (e : Int) < (y.length : Int) := by have := HYL.out; omega
                  obtain ⟨adr, e0, hxe⟩ := Kd.at_int (Kd.C_below HRR.out (below_then (HB.out).hb HWL.out (HRQ.out).hb)) (e : Int) (by omega) hlez
                  cases e0
                  rw [Int.toNat_natCast] at hxe
                  have HRS := Aside0.mk (show rowTo (stepR l K) x q (e + 1) = if (stepR l K x e).2 then ((rowTo (stepR l K) x q e).1 ++ [(place (stepR l K x e).1 (rowTo (stepR l K) x q e).2 : Int)], ins (rowTo (stepR l K) x q e).2 (stepR l K x e).1) else ((rowTo (stepR l K) x q e).1 ++ [-1], (rowTo (stepR l K) x q e).2) from rfl)
                  rw [HSX.out] at HRS
                  have HYE := Aside0.mk (HYR.out _ (rd_mem (k := e) (by have := HYL.out; omega)))
                  have hql := Nat.le_trans (rowTo_mono (step := stepR l K) (x := x) (q := q) (e := e) (e' := n) (by omega)) HQM.out
                  have hrl : (rowTo (stepR l K) x q e).1.length = e := rowTo_len
                  generalize rd y (e : Int) = r at *
                  by_cases hneg : r < 0
                  · have hge : decide (r ≥ 0) = false := by simpa using hneg
                    obtain rfl : r = -1 := by have := (HYE.out).1; omega
                    rw [if_neg (show ¬ (-1 : Int) ≥ 0 by omega)] at HRS
                    simp only [Bool.false_eq_true, if_false] at HRS
                    clear hneg hge
                    have hlr2 : ((rowTo (stepR l K) x q e).1.length + 1) * 8 ≤ 140737488355328 := by omega
                    clear hrl
                    generalize (rowTo (stepR l K) x q e).2 = qe at *
                    generalize (rowTo (stepR l K) x q e).1 = re at *
                    go_wp2_with ((with_reducible refine gate_builtin (b := .append) (xs := #[.tmp 139, .tmp 141]) rfl ?_); at_builtin; refine Kd.R_append (Kd.int .i64) (w0 := wr) B1 rfl (.tmp 139) (.tmp 141) 25 3 (.int .i64 0) 8 rfl Try.underlying25 info3 rfl (by decide) (by omega) (.slice A12 re.length c12) re (-1) [.int .i64 (-1)] (fun k => Sr k ∨ wr.heap.size ≤ k) (fun _ => False) rfl rfl rfl (fun _ hk => hk.elim) (fun k hk => .inr hk) (Kd.R_mono (HRQ.out).hR (fun _ hk => .inl hk)) (Below.refl B1 wr) ((HRQ.out).h1).2.2.1 hlr2 ?_; intro v5 w5 ho5 hb5 hg5 hat5; have HRQ5 := Aside0.mk ((HRQ.out).appR ho5 hg5); clear ho5 hb5 hg5 hat5 HRQ)
                    go_roundg (n - (e + 1))
                    case measure => omega
                    case rel =>
                      refine ⟨e + 1, fun k => Sq k ∧ k < wr.heap.size, fun k => So k ∧ k < wr.heap.size, fun k => Sr k ∨ wr.heap.size ≤ k, by omega, by omega, by go_num, ?_⟩
                      rw [HRS.out]
                      exact HRQ5
                  · have hge : decide (r ≥ 0) = true := by simpa using hneg
                    rw [if_pos (show r ≥ 0 by omega)] at HRS
                    simp only [if_true] at HRS
                    have hr0 : 0 ≤ r := by omega
                    have hr1 := (HYE.out).2
                    obtain ⟨_, e0, hxc⟩ := Kd.at_int (Kd.C_below (HKC.out).2.2 (HRQ.out).hb) r hr0 (by have := HKL.out; omega)
                    cases e0
                    have hkr := HKR.out (rd K r) (by obtain ⟨s, hs⟩ : ∃ s : Nat, r = s := ⟨r.toNat, by omega⟩; rw [hs]; exact rd_mem (by have := HKL.out; omega))
                    obtain ⟨p, hp⟩ : ∃ p : Nat, rd K r = p := ⟨(rd K r).toNat, by omega⟩
                    rw [hp] at hxc HRS hkr
                    clear hp hneg
                    have hpN : p < l.length := by omega
                    have hlr2 : ((rowTo (stepR l K) x q e).1.length + 1) * 8 ≤ 140737488355328 := by omega
                    clear hrl
                    generalize (rowTo (stepR l K) x q e).2 = qe at *
                    generalize (rowTo (stepR l K) x q e).1 = re at *
                    obtain ⟨ys, hys, hny⟩ := (HRQ.out).hN
                    have hpv := hys.2 p hpN
                    obtain ⟨hc1, hf1⟩ := Kd.R_celln 0 hny (p : Int) (by omega) (by omega)
                    rw [Int.toNat_natCast] at hc1 hf1
                    rw [show rdOf 0 ys (p : Int) = rd ys (p : Int) from rfl, hpv] at hc1
                    clear hpv
                    by_cases hm : (p : Int) ∈ qe
                    · rw [if_pos hm] at hc1
                      rw [ins, if_pos hm] at HRS
                      clear hm hf1 hny hys
                      generalize place (p : Int) qe = kk at *
                      have hne : ((kk : Int) == -1) = false := beq_eq_false_iff_ne.2 (by omega)
                      go_wp2_with ((with_reducible refine gate_builtin (b := .append) (xs := #[.tmp 139, .tmp 141]) rfl ?_); at_builtin; refine Kd.R_append (Kd.int .i64) (w0 := wr) B1 rfl (.tmp 139) (.tmp 141) 25 3 (.int .i64 0) 8 rfl Try.underlying25 info3 rfl (by decide) (by omega) (.slice A12 re.length c12) re ((kk : Int)) [.int .i64 ((kk : Int))] (fun k => Sr k ∨ wr.heap.size ≤ k) (fun _ => False) rfl rfl rfl (fun _ hk => hk.elim) (fun k hk => .inr hk) (Kd.R_mono (HRQ.out).hR (fun _ hk => .inl hk)) (Below.refl B1 wr) ((HRQ.out).h1).2.2.1 hlr2 ?_; intro v5 w5 ho5 hb5 hg5 hat5; have HRQ5 := Aside0.mk ((HRQ.out).appR ho5 hg5); clear ho5 hb5 hg5 hat5 HRQ)
                      go_roundg (n - (e + 1))
                      case measure => omega
                      case rel =>
                        refine ⟨e + 1, fun k => Sq k ∧ k < wr.heap.size, fun k => So k ∧ k < wr.heap.size, fun k => Sr k ∨ wr.heap.size ≤ k, by omega, by omega, by go_num, ?_⟩
                        rw [HRS.out]
                        exact HRQ5
                    · rw [if_neg hm] at hc1
                      rw [ins, if_neg hm] at HRS
                      have HPL := Aside0.mk (place_new hm)
                      have HPUT := Kd.R_putg hny (p : Int) (qe.length : Int)
                      rw [Int.toNat_natCast] at HPUT
                      have HRQ2 := Aside0.mk ((HRQ.out).write (hys.put hpN hm) HPUT.1 HPUT.2)
                      have HMQ := Aside0.mk hm
                      clear hny hys HPUT hm HRQ
                      go_upto_region 37 with (fail)
                      clear hc1 hf1 hxc hxe
                      generalize (wr.setCell ⟨nb, p, none⟩ (.int .i64 (qe.length : Int))) = w13 at *
                      have hlq2 : (qe.length + 1) * 8 ≤ 140737488355328 := by omega
                      go_upto_region 38 with ((with_reducible refine gate_builtin (b := .append) (xs := #[.tmp 131, .tmp 133]) rfl ?_); at_builtin; refine Kd.R_append (Kd.int .i64) (w0 := w13) B1 rfl (.tmp 131) (.tmp 133) 25 3 (.int .i64 0) 8 rfl Try.underlying25 info3 rfl (by decide) (by omega) (.slice A9 qe.length c9) qe (p : Int) [.int .i64 (p : Int)] (fun k => Sq k ∨ w13.heap.size ≤ k) (fun _ => False) rfl rfl rfl (fun _ hk => hk.elim) (fun k hk => .inr hk) (Kd.R_mono (HRQ2.out).hQ (fun _ hk => .inl hk)) (Below.refl B1 w13) ((HRQ2.out).h1).2.2.1 hlq2 ?_; intro v4 w4 ho5 hb5 hg5 hat5; have HRQ4 := Aside0.mk ((HRQ2.out).appQ ho5 hg5); clear ho5 hb5 hg5 hat5 HRQ2)
                      obtain ⟨ys, hys, hny⟩ := (HRQ4.out).hN
                      have hpv := hys.2 p hpN
                      rw [if_pos (by simp), place_snoc HMQ.out] at hpv
                      obtain ⟨hc1, hf1⟩ := Kd.R_celln 0 hny (p : Int) (by omega) (by omega)
                      rw [Int.toNat_natCast] at hc1
                      rw [show rdOf 0 ys (p : Int) = rd ys (p : Int) from rfl, hpv] at hc1
                      rw [HPL.out] at HRS
                      clear hpv hf1 hny hys HMQ HPL
                      go_wp2_with ((with_reducible refine gate_builtin (b := .append) (xs := #[.tmp 139, .tmp 141]) rfl ?_); at_builtin; refine Kd.R_append (Kd.int .i64) (w0 := w4) B1 rfl (.tmp 139) (.tmp 141) 25 3 (.int .i64 0) 8 rfl Try.underlying25 info3 rfl (by decide) (by omega) (.slice A12 re.length c12) re ((qe.length : Int)) [.int .i64 ((qe.length : Int))] (fun k => (fun k => Sr k ∧ k < w13.heap.size) k ∨ w4.heap.size ≤ k) (fun _ => False) rfl rfl rfl (fun _ hk => hk.elim) (fun k hk => .inr hk) (Kd.R_mono (HRQ4.out).hR (fun _ hk => .inl hk)) (Below.refl B1 w4) ((HRQ4.out).h1).2.2.1 hlr2 ?_; intro v5 w5 ho5 hb5 hg5 hat5; have HRQ5 := Aside0.mk ((HRQ4.out).appR ho5 hg5); clear ho5 hb5 hg5 hat5 HRQ4)
                      go_roundg (n - (e + 1))
                      case measure => omega
                      case rel =>
                        refine ⟨e + 1, fun k => (Sq k ∨ w13.heap.size ≤ k) ∧ k < w4.heap.size, fun k => (So k ∧ k < w13.heap.size) ∧ k < w4.heap.size, fun k => (Sr k ∧ k < w13.heap.size) ∨ w4.heap.size ≤ k, by omega, by omega, by go_num, ?_⟩
                        rw [HRS.out]
                        exact HRQ5
                · have hlez : ¬ (e : Int) < (y.length : Int) := by have := HYL.out; omega
                  have hen2 : e = n := by omega
                  have HEN := Aside0.mk hen2
                  clear hen2
                  have HST2 := Aside0.mk (show (bfsTo n (stepR l K) (c0 : Int) (i + 1)).1 = o ++ [(rowTo (stepR l K) x q e).1] ∧ (bfsTo n (stepR l K) (c0 : Int) (i + 1)).2 = (rowTo (stepR l K) x q e).2 from by rw [HST.out, HEN.out]; exact ⟨rfl, rfl⟩)
                  clear HST
                  generalize (rowTo (stepR l K) x q e).2 = qe at *
                  generalize (rowTo (stepR l K) x q e).1 = re at *
                  have hlo : (o.length + 1) * 24 ≤ 140737488355328 := by have := HOL.out; omega
                  obtain ⟨Ao, co, rfl⟩ := Kd.R_slice (HRQ.out).hO
                  have hz2 : wr.cell? ⟨ob, 2, none⟩ = some (.slice Ao o.length co) := (blk_cell (HRQ.out).ho 2).trans rfl
                  go_wp2_with ((with_reducible refine gate_builtin (b := .append) (xs := #[.tmp 145, .tmp 147]) rfl ?_); at_builtin; refine Kd.R_append (Kd.slice 3 (Kd.int .i64)) (w0 := wr) B1 rfl (.tmp 145) (.tmp 147) 22 25 (.slice none 0 0) 24 rfl Try.underlying22 info25 rfl (by decide) (by omega) (.slice Ao o.length co) o re [.slice A12 re.length c12] (fun k => (So k ∨ Sr k) ∨ wr.heap.size ≤ k) Sr rfl rfl ⟨_, rfl, (HRQ.out).hR⟩ (fun k hk => ⟨.inl (.inr hk), fun he => (HRQ.out).dor k ((HRQ.out).hO.1 k he.symm) hk⟩) (fun k hk => .inr hk) (Kd.R_mono (HRQ.out).hO (fun _ hk => .inl (.inl hk))) (Below.refl B1 wr) ((HRQ.out).h1).2.2.1 hlo ?_; intro v5 w5 ho5 hb5 hg5 hat5; have HRQ5 := Aside0.mk ((HRQ.out).appO ho5 hg5); clear ho5 hb5 hg5 hat5 HRQ hz2; (obtain ⟨A5, c5, e5⟩ := Kd.R_slice (HRQ5.out).hO); rw [List.length_append, List.length_singleton] at e5; subst e5; have hcl : w5.cell? ⟨ob, 2, none⟩ = some (.slice Ao o.length co) := (blk_cell (HRQ5.out).ho 2).trans rfl; have hfz : w5.frozen? ⟨ob, 2, none⟩ = false := blk_frozen (HRQ5.out).ho 2)
                  have HRQ6 := Aside0.mk ((HRQ5.out).put (.slice A5 (o.length + 1) c5))
                  go_roundg (l.length - (i + 1))
                  case measure => omega
                  case rel =>
                    refine ⟨i + 1, .slice A5 (o.length + 1) c5, fun k => Sq k ∧ k < wr.heap.size, fun k => (So k ∨ Sr k) ∨ wr.heap.size ≤ k, by omega, by omega, by go_num, ?_⟩
                    rw [(HST2.out).1, (HST2.out).2]
                    exact HRQ6
            · have hltz : ¬ (i : Int) < ((bfsTo n (stepR l K) (c0 : Int) i).2.length : Int) := by omega
              have HFin := Aside0.mk (show bfsTo n (stepR l K) (c0 : Int) l.length = bfsTo n (stepR l K) (c0 : Int) i by
                have := bfsTo_stays (n := n) (step := stepR l K) (start := (c0 : Int)) hlt (l.length - i)
                rwa [show i + (l.length - i) = l.length from by omega] at this)
              rw [HFin.out] at HRL
              generalize (bfsTo n (stepR l K) (c0 : Int) i) = bi at *
              have hblk := Aside0.mk (blk_below (HB.out).hr (HRQ.out).hb)
              have hz0 : wr.cell? ⟨ob, 0, none⟩ = some (.int .i64 n) := (blk_cell (HRQ.out).ho 0).trans rfl
              have hz1 : wr.cell? ⟨ob, 1, none⟩ = some (.int .i64 0) := (blk_cell (HRQ.out).ho 1).trans rfl
              have hz2 : wr.cell? ⟨ob, 2, none⟩ = some ov := (blk_cell (HRQ.out).ho 2).trans rfl
              have hs0 : wr.cell? ⟨w.heap.size + 1, 0, none⟩ = some (.int .i64 0) := (blk_cell hblk.out 0).trans rfl
              have hs1 : wr.cell? ⟨w.heap.size + 1, 1, none⟩ = some (.int .i64 0) := (blk_cell hblk.out 1).trans rfl
              have hs2 : wr.cell? ⟨w.heap.size + 1, 2, none⟩ = some (.slice none 0 0) := (blk_cell hblk.out 2).trans rfl
              have hf0 : wr.frozen? ⟨w.heap.size + 1, 0, none⟩ = false := blk_frozen hblk.out 0
              have hf1 : wr.frozen? ⟨w.heap.size + 1, 1, none⟩ = false := blk_frozen hblk.out 1
              have hf2 : wr.frozen? ⟨w.heap.size + 1, 2, none⟩ = false := blk_frozen hblk.out 2
              have HOV := Aside0.mk (Kd.R_slice (HRQ.out).hO)
              obtain ⟨Ao, co, rfl⟩ := HOV.out
              go_wp2
              have hb1 := Aside0.mk (blk_set hblk.out 0 (.int .i64 n))
              have hb2 := Aside0.mk (blk_set hb1.out 1 (.int .i64 0))
              have hb3 := Aside0.mk (blk_set hb2.out 2 (.slice Ao bi.1.length co))
              have hg1 := grown_setCell wr ⟨w.heap.size + 1, 0, none⟩ (.int .i64 n)
              have hg2 := grown_setCell (wr.setCell ⟨w.heap.size + 1, 0, none⟩ (.int .i64 n)) ⟨w.heap.size + 1, 1, none⟩ (.int .i64 0)
              have hg3 := grown_setCell ((wr.setCell ⟨w.heap.size + 1, 0, none⟩ (.int .i64 n)).setCell ⟨w.heap.size + 1, 1, none⟩ (.int .i64 0)) ⟨w.heap.size + 1, 2, none⟩ (.slice Ao bi.1.length co)
              have HO1 := R_offrow (HRQ.out).hO hblk.out (by simp [Kd.slice, Kd.int, Kd.scalar]) hg1
              have HO2 := R_offrow HO1 hb1.out (by simp [Kd.slice, Kd.int, Kd.scalar]) hg2
              have HO3 := Aside0.mk (R_offrow HO2 hb2.out (by simp [Kd.slice, Kd.int, Kd.scalar]) hg3)
              have HBB := below_then (HB.out).hb HWL.out (HRQ.out).hb
              have HBC := pw_below_grown HBB _ HBB.size hg1 (fun k hk => by cases hk; exact Nat.le_succ _)
              have HBD := pw_below_grown HBC _ HBC.size hg2 (fun k hk => by cases hk; exact Nat.le_succ _)
              have HBE := Aside0.mk (pw_below_grown HBD _ HBD.size hg3 (fun k hk => by cases hk; exact Nat.le_succ _))
              clear HO1 HO2 HBB HBC HBD hg1 hg2 hg3
              refine bodyPost_ret (results_cell_row rfl _ _ (w.heap.size + 1) 24 #[.int .i64 n, .int .i64 0, .slice Ao bi.1.length co] (0, 0) _ rfl hb3.out Try.underlying24 rfl (by kernel_rfl)) rfl ?_
              refine ⟨_, So, rfl, ?_, HBE.out⟩
              rw [HRL.out]
              exact Kd.R_lower HO3.out (by have := HWL.out; have := (HRQ.out).h1; omega)
end Go.Proofs.Ytmphigeefppfpaa.H
