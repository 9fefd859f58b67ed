/- SpecPaths: the law answers true for every input at which the table of package math/bits reads as the text lays it. -/
import Derived.Test.YtmphigeefppfpaaDoorBl
namespace Go.Proofs.YtmphigeefppfpaaDoor.H
open Go.RowKit Go.Proofs.YtmphigeefppfpaaDoorW.PrintWords Go.Proofs.YtmphigeefppfpaaDoorW.PrintLast Go.Proofs.YtmphigeefppfpaaDoorW.PrintMore
open Go.Proofs.YtmphigeefppfpaaDoor.PSpecPaths (S28 k28 rd_T28 z28 at_T28)
set_option linter.unusedVariables false

theorem au_zero {ev st : Int} {l : List (List Int)} {rk of : List Int} (h : auErr ev st l rk of = 0) : specOk ev st l = true ∧ ranksB rk = true ∧ of.length = rk.length ∧ (∀ f : Nat, f < rk.length → rd of (f : Int) < ev) ∧ (leastRows ev st l).length ≤ 6 ∧ auRk ev st l rk of = rk ∧ auM ev st l rk of = auMoves rk of (leastRows ev st l) (leastRows ev st l).length := by
  have h0 := h
  unfold auErr at h
  cases hs : specOk ev st l with
  | false => rw [hs] at h; simp at h
  | true =>
    rw [hs, if_pos rfl] at h
    cases ha : auArgs ev rk of with
    | false => rw [ha] at h; simp at h
    | true =>
      rw [ha, if_pos rfl] at h
      by_cases h6 : 6 < (leastRows ev st l).length
      · rw [if_pos h6] at h; simp at h
      · unfold auArgs at ha
        simp only [Bool.and_eq_true, decide_eq_true_eq, Bool.not_eq_true'] at ha
        refine ⟨rfl, ha.1.1, ha.1.2, fun f hf => ?_, by omega, by rw [auRk, if_pos h0], by rw [auM, if_pos h0]⟩
        have hb := List.any_eq_false.1 ha.2 _ (rd_mem (xs := of) (k := f) (by omega))
        unfold auBad at hb
        simp only [Bool.or_eq_true, decide_eq_true_eq, not_or] at hb
        omega
theorem paths_law {ev st : Int} {l : List (List Int)} {rk of : List Int} {t : S28} (h : auErr ev st l rk of = 0) (ht : treeOk rk t = true) :
    AuOk rk (auM ev st l rk of) ∧ 0 < (auM ev st l rk of).length ∧ accT (auM ev st l rk of) t 0 = allowedB l of t st ∧ Ev (fun k => PSpecPaths.virgationlaw11_allowed.f k ev st l of st t.f0 t.f1) (allowedB l of t st) := by
  obtain ⟨hs, hrk, hof, hev, h6, _, e⟩ := au_zero h
  obtain ⟨ht1, hd, hev0, _, _, _⟩ := spec_table hs
  have hlr := (leastRows_is hs).1
  obtain ⟨hg, hg1⟩ := isLeast_ok hlr
  have hq := isLeast_lq hlr
  simp only [treeOk, Bool.and_eq_true, decide_eq_true_eq] at ht
  have hev2 : ∀ f : Nat, f < rk.length → rd of (f : Int) < (ev.toNat : Int) := fun f hf => by have := hev f hf; omega
  rw [e]
  refine ⟨auOk_moves hg hg1 h6 hrk hev2, by rw [auMoves_len]; omega, ?_, ?_⟩
  · rw [acc_allowed hg hev2 _ t (Nat.le_refl _) ht.2 0 (by omega)]
    exact allowed_same hg ht1 hev2 _ t (Nat.le_refl _) ht.2 _ _ ⟨by simp, by simp; omega⟩ hd hq
  · refine allowed_ev ev st ht1 hof (fun s hs0 hs1 => ?_) _ t (Nat.le_refl _) ht.1.1 ht.2 st hd
    obtain ⟨f, rfl⟩ : ∃ f : Nat, s = (f : Int) := ⟨s.toNat, by omega⟩
    exact hev2 f (by omega)
/-- The boxes of the specification and of the tree. -/
structure PB2 (w W : World) (a b : Array Value) : Prop where
  hb : Below w.heap.size w W
  h1 : W.heap[w.heap.size]? = some (.cells a 24 (0, 0))
  h2 : W.heap[w.heap.size + 1]? = some (.cells b 28 (0, 0))
theorem PB2.start (w : World) (a b : Array Value) : PB2 w ((w.alloc (.cells a 24)).alloc (.cells b 28)) a b := ⟨below_alloc (below_alloc (Below.refl _ _) _) _, blk_alloc (blk_new w (.cells a 24)) (.cells b 28), blk_at2 w (.cells a 24) (.cells b 28)⟩
theorem PB2.below {w W W1 : World} {a b : Array Value} (h : PB2 w W a b) (hb : Below W.heap.size W W1) : PB2 w W1 a b := ⟨below_then h.hb h.hb.size hb, blk_below h.h1 hb, blk_below h.h2 hb⟩
set_option maxHeartbeats 4000000 in
set_option maxRecDepth 100000 in
theorem specPaths_calls (ev st : Int) (A : Option Addr) (c : Nat) (l : List (List Int)) (A1 : Option Addr) (c1 : Nat) (rk : List Int) (A2 : Option Addr) (c2 : Nat) (of : List Int) (t : S28) (A3 : Option Addr) (c3 : Nat) (w : World)
    (hr : Kd.C (Kd.slice 3 (Kd.int .i64)) w A l.length l) (hc : l.length ≤ c) (hr1 : Kd.C (Kd.int .i64) w A1 rk.length rk) (hc1 : rk.length ≤ c1) (hr2 : Kd.C (Kd.int .i64) w A2 of.length of) (hc2 : of.length ≤ c2) (hC : Kd.C k28 w A3 t.f1.length t.f1) (hc3 : t.f1.length ≤ c3) (hT : Tab w) :
    Calls Tryd.prog 3 #[.agg #[.int .i64 ev, .int .i64 st, .slice A l.length c], .slice A1 rk.length c1, .slice A2 of.length c2, .agg #[.int .i64 t.f0, .slice A3 t.f1.length c3]] w fun e w' => e = .returned (.bool true) ∧ Below w.heap.size w w' := by
  have HAU := Aside0.mk fun W (hW : Below w.heap.size w W) => sauto_calls ev st A c l A1 A2 c1 c2 rk of W (Kd.C_below hr hW) (Kd.C_below hr1 hW) hc1 (Kd.C_below hr2 hW)
  unfold AuEnd at HAU
  have HIS := Aside0.mk (show ∀ W, Below w.heap.size w W → Calls Tryd.prog 5 #[.slice A1 rk.length c1, .agg #[.int .i64 t.f0, .slice A3 t.f1.length c3]] W fun E w' => E = .returned (.bool (treeOk rk t)) ∧ Below W.heap.size W w' from fun W hW => by
    obtain ⟨k, hk⟩ := (is_ev6 rk t).rounds
    exact PSpecPaths.virgationref06_Is.calls k A1 c1 rk t.f0 A3 c3 t.f1 _ W (Kd.C_below hr1 hW) hc1 (Kd.C_below hC hW) hc3 hk)
  have HLAW := Aside0.mk (fun (h : auErr ev st l rk of = 0) (ht : treeOk rk t = true) => paths_law h ht)
  have HZ := Aside0.mk (fun (h : auErr ev st l rk of = 0) => au_zero h)
  have HG := Aside0.mk (And.intro (And.intro hr hc) (And.intro (And.intro hr1 hc1) (And.intro (And.intro hr2 hc2) (And.intro (And.intro hC hc3) hT))))
  have HS := Aside0.mk (PB2.start w #[.int .i64 ev, .int .i64 st, .slice A l.length c] #[.int .i64 t.f0, .slice A3 t.f1.length c3])
  clear hr hc hr1 hc1 hr2 hc2 hC hc3 hT
  generalize auErr ev st l rk of = err at *
  generalize auRk ev st l rk of = rkE at *
  generalize auM ev st l rk of = mE at *
  go_enter Tryd.func3, Tryd.ntmps3
  go_upto_region 1 with (fail)
  generalize ((w.alloc (.cells #[.int .i64 ev, .int .i64 st, .slice A l.length c] 24)).alloc (.cells #[.int .i64 t.f0, .slice A3 t.f1.length c3] 28)) = W1 at *
  obtain ⟨hk0, hk1, hk2⟩ := box3_cells (HS.out).h1
  go_wp2_with fail
  refine (HAU.out _ (HS.out).hb).mono ?_
  rintro E w2 ⟨B1, B2, b1, b2, S1, S2, rfl, hR1, hR2, hb⟩
  have HS2 := Aside0.mk ((HS.out).below hb)
  have HR1 := Aside0.mk (Kd.R_reads' hR1)
  have HR2 := Aside0.mk (Kd.R_reads' hR2)
  clear hb hR1 hR2 hk0 hk1 hk2 HS HAU
  go_upto_region 2 with (fail)
  have ha := below_alloc (Below.refl w2.heap.size w2) (.cells #[.slice B1 rkE.length b1, .int .i64 0, .slice B2 mE.length b2] 31)
  have HS3 := Aside0.mk ((HS2.out).below ha)
  have HA1 := Aside0.mk (Kd.C_below (HR1.out).2.2 ha)
  have HA2 := Aside0.mk (Kd.C_below (HR2.out).2.2 ha)
  have HA3 := Aside0.mk (And.intro (HR1.out).2.1 (HR2.out).2.1)
  have HX := Aside0.mk (blk_new w2 (.cells #[.slice B1 rkE.length b1, .int .i64 0, .slice B2 mE.length b2] 31))
  clear ha HS2 HR1 HR2
  generalize (w2.alloc (.cells #[.slice B1 rkE.length b1, .int .i64 0, .slice B2 mE.length b2] 31)) = w3 at *
  generalize w2.heap.size = b9 at *
  by_cases he : err = 0
  · subst he
    obtain ⟨hz1, hz2, hz3, hz4, hz5, e1, e2⟩ := HZ.out rfl
    subst e1
    clear hz1 hz2 hz3 hz4 hz5 e2 HZ
    obtain ⟨hk3, hk4⟩ := box2_cells (HS3.out).h2
    go_wp2_with fail
    refine (HIS.out _ (HS3.out).hb).mono ?_
    rintro E w4 ⟨rfl, hb⟩
    have HS4 := Aside0.mk ((HS3.out).below hb)
    have HA4 := Aside0.mk (Kd.C_below HA1.out hb)
    have HA5 := Aside0.mk (Kd.C_below HA2.out hb)
    have HX4 := Aside0.mk (blk_below HX.out hb)
    clear hb HS3 HA1 HA2 HX hk3 hk4 HIS
    cases htk : treeOk rkE t with
    | false =>
      clear htk HLAW
      go_wp2_with fail
      refine (alive_calls _).mono ?_
      rintro E w9 ⟨rfl, hb⟩
      have HB9 := Aside0.mk (((HS4.out).below hb).hb)
      go_wp2
      go_ret
      exact ⟨rfl, HB9.out⟩
    | true =>
      obtain ⟨hok, hlen, hacc, hev⟩ := HLAW.out (by first | trivial | rfl) htk
      have HAI := Aside0.mk (show ∀ W, Below w.heap.size w W → Kd.C (Kd.int .i64) W B1 rkE.length rkE → Kd.C kA3 W B2 mE.length mE → Calls Tryd.prog 7 #[.agg #[.slice B1 rkE.length b1, .int .i64 0, .slice B2 mE.length b2], .int .i64 0, .agg #[.int .i64 t.f0, .slice A3 t.f1.length c3]] W fun E w' => E = .returned (.tuple #[.bool (allowedB l of t st), .int .i64 0]) ∧ Below W.heap.size W w' from fun W hW h1 h2 => by
        rw [← hacc]
        exact ais_calls rkE mE 0 t B1 b1 B2 b2 A3 c3 W hok hlen htk h1 (HA3.out).1 h2 (Kd.C_below (HG.out).2.2.2.1.1 hW) (HG.out).2.2.2.1.2 ((HG.out).2.2.2.2.below hW))
      have HAL := Aside0.mk (show ∀ W, Below w.heap.size w W → Calls Tryd.prog 8 #[.agg #[.int .i64 ev, .int .i64 st, .slice A l.length c], .slice A2 of.length c2, .int .i64 st, .agg #[.int .i64 t.f0, .slice A3 t.f1.length c3]] W fun E w' => E = .returned (.bool (allowedB l of t st)) ∧ Below W.heap.size W w' from fun W hW => by
        obtain ⟨k, hk⟩ := hev.rounds
        exact PSpecPaths.virgationlaw11_allowed.calls k ev st A c l A2 c2 of st t.f0 A3 c3 t.f1 _ W (Kd.C_below (HG.out).1.1 hW) (HG.out).1.2 (Kd.C_below (HG.out).2.2.1.1 hW) (HG.out).2.2.1.2 (Kd.C_below (HG.out).2.2.2.1.1 hW) (HG.out).2.2.2.1.2 hk)
      clear hok hlen hacc hev htk HLAW HG
      generalize allowedB l of t st = ans at *
      obtain ⟨hk0, hk1, hk2⟩ := box3_cells HX4.out
      obtain ⟨hk3, hk4⟩ := box2_cells (HS4.out).h2
      go_wp2_with fail
      refine (HAI.out _ (HS4.out).hb HA4.out HA5.out).mono ?_
      rintro E w5 ⟨rfl, hb⟩
      have HS5 := Aside0.mk ((HS4.out).below hb)
      clear hb HS4 HA4 HA5 HX4 HAI hk0 hk1 hk2 hk3 hk4
      obtain ⟨hk0, hk1, hk2⟩ := box3_cells (HS5.out).h1
      obtain ⟨hk3, hk4⟩ := box2_cells (HS5.out).h2
      go_wp2_with fail
      refine (HAL.out _ (HS5.out).hb).mono ?_
      rintro E w6 ⟨rfl, hb⟩
      have HS6 := Aside0.mk ((HS5.out).below hb)
      clear hb HS5 HAL hk0 hk1 hk2 hk3 hk4
      go_wp2_with fail
      refine (alive_calls _).mono ?_
      rintro E w9 ⟨rfl, hb⟩
      have HB9 := Aside0.mk (((HS6.out).below hb).hb)
      go_wp2
      go_ret
      exact ⟨rfl, HB9.out⟩
  · have d1 : (err == 0) = false := beq_eq_false_iff_ne.2 he
    have d2 : (err != 0) = true := bne_iff_ne.2 he
    clear HLAW HZ HIS
    go_wp2_with fail
    refine (alive_calls _).mono ?_
    rintro E w9 ⟨rfl, hb⟩
    have HB9 := Aside0.mk (((HS3.out).below hb).hb)
    go_wp2
    go_ret
    exact ⟨rfl, HB9.out⟩
end Go.Proofs.YtmphigeefppfpaaDoor.H
