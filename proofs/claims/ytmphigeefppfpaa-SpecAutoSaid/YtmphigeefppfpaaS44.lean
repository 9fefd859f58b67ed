/- What specAuto_calls needs, out of my texts, by a program (slim.py). -/
import Derived.Test.YtmphigeefppfpaaS43
namespace Go.Proofs.Ytmphigeefppfpaa.H
open Go.RowKit Go.Proofs.YtmphigeefppfpaaW.PrintWords Go.Proofs.YtmphigeefppfpaaW.PrintLast Go.Proofs.YtmphigeefppfpaaW.PrintMore
set_option linter.unusedVariables false
theorem auArgs_true {ev : Int} {rk of : List Int} (h : auArgs ev rk of = true) : ranksB rk = true ∧ of.length = rk.length ∧ of.any (auBad ev) = false ∧ (∀ f : Nat, f < rk.length → -1 ≤ rd of f ∧ rd of f < ev) ∧ rk.length ≤ 24 ∧ ∀ f : Nat, f < rk.length → 0 ≤ rd rk f ∧ rd rk f ≤ 4 := by
  simp only [auArgs, Bool.and_eq_true, decide_eq_true_eq, Bool.not_eq_true'] at h
  obtain ⟨⟨h1, h2⟩, h3⟩ := h
  refine ⟨h1, h2, h3, fun f hf => ?_, ?_⟩
  · have h4 := (List.any_eq_false.1 h3) (rd of f) (rd_mem (by omega))
    simp only [auBad, Bool.or_eq_true, decide_eq_true_eq, not_or] at h4
    omega
  · simp only [ranksB, Bool.and_eq_true, List.all_eq_true, decide_eq_true_eq] at h1
    refine ⟨by omega, fun f hf => ?_⟩
    exact h1.1 _ (rd_mem hf)
theorem auRow_succ (rk of steps : List Int) (q f : Nat) : auRow rk of steps q (f + 1) = auRow rk of steps q f ++ [auAt rk of steps q f] := by
  simp [auRow, List.range_succ]
theorem auMoves_succ (rk of : List Int) (g : List (List Int)) (q : Nat) : auMoves rk of g (q + 1) = auMoves rk of g q ++ [auRow rk of (Q.rd_L1 g q) q rk.length] := by
  simp [auMoves, List.range_succ]
def needTo (k : Nat) (tt : Int) : List Q.S78 := (List.range k).map fun (k : Nat) => ⟨(k : Int), tt⟩
theorem needTo_succ (k : Nat) (tt : Int) : needTo (k + 1) tt = needTo k tt ++ [⟨(k : Int), tt⟩] := by simp [needTo, List.range_succ]
theorem needTo_len (k : Nat) (tt : Int) : (needTo k tt).length = k := by simp [needTo]
theorem AS.fin {w W : World} {bs : List (Nat × Array Value)} {ob B1 : Nat} {rv gv mv bv : Value} {Sm : Nat → Prop} {rk : List Int} {g : List (List Int)} {M : List (List (List (List Q.S78)))} (h : AS w W bs ob B1 rv gv mv bv Sm rk g M) (a b c : Value) :
    (outW w W a b c).heap[w.heap.size + 1]? = some (.cells #[a, b, c] 44 (0, 0)) ∧ Kd.R (Kd.int .i64) 3 (outW w W a b c) w.heap.size (fun k => k < B1) rv rk ∧ Kd.R kA3 75 (outW w W a b c) w.heap.size Sm mv M ∧ Below w.heap.size w (outW w W a b c) := by
  have hg := put3_grown W (w.heap.size + 1) a b c
  obtain ⟨a1, a2, a3⟩ := h.h1
  exact ⟨blk_set (blk_set (blk_set h.hr 0 a) 1 b) 2 c, R_offrow h.hRk h.hr (by simp [Kd.int, Kd.scalar]) hg, R_offrow (Kd.R_lower h.hM (by omega)) h.hr (by simp [Kd.slice, Q.k78, Kd.iso, Kd.pair, Kd.int, Kd.scalar]) hg, pw_below_grown h.hb _ h.hb.size hg (fun k hk => by cases hk; omega)⟩
theorem below_base {B : Nat} {w W : World} (h : Below w.heap.size w W) (hB : B ≤ w.heap.size) : Below B w W := h.mono hB
set_option maxHeartbeats 8000000 in
set_option maxRecDepth 100000 in
theorem sauto_go (ev st : Int) (A : Option Addr) (c : Nat) (l : List (List Int)) (A1 A2 : Option Addr) (c1 c2 : Nat) (rk of : List Int) (w : World) (hr : Kd.C (Kd.slice 3 (Kd.int .i64)) w A l.length l)
    (hr1 : Kd.C (Kd.int .i64) w A1 rk.length rk) (hc1 : rk.length ≤ c1) (hr2 : Kd.C (Kd.int .i64) w A2 of.length of) (hs : specOk ev st l = true) (ha : auArgs ev rk of = true) :
    Calls Try.prog 33 #[.agg #[.int .i64 ev, .int .i64 st, .slice A l.length c], .slice A1 rk.length c1, .slice A2 of.length c2] w (AuEnd (auErr ev st l rk of) (auRk ev st l rk of) (auM ev st l rk of) w) := by
  have H1 := Aside0.mk fun W (hW : Below w.heap.size w W) => check_calls ev st A c l W (Kd.C_below hr hW)
  rw [show checkVal ev st l = 0 from by simp [checkVal, hs]] at H1
  obtain ⟨hrk, hlen, hany, hof, hl24, hrr⟩ := auArgs_true ha
  have H2 := Aside0.mk fun W (hW : Below w.heap.size w W) => ranks_calls A1 c1 rk W (Kd.C_below hr1 hW) hc1
  rw [hrk] at H2
  have HF := Aside0.mk fun W (hW : Below w.heap.size w W) (hn : W.cell? ⟨w.heap.size, 0, none⟩ = some (.int .i64 ev)) => containsFunc_calls A2 c2 of 56 #[.pointer (some ⟨w.heap.size, 0, none⟩)] (fun _ => True) _ W (Kd.C_below hr2 hW) (fun _ _ => trivial) (auto1_pred _ _ _ hn) (fun _ _ => rfl)
  rw [hany] at HF
  have HCL := Aside0.mk fun W (hW : Below w.heap.size w W) => clone_calls A1 c1 rk W (Kd.C_below hr1 hW) (by omega)
  unfold CloneEnd at HCL
  have HRK := Aside0.mk hr1
  have HOF := Aside0.mk hr2
  have HOR := Aside0.mk hof
  have HRR := Aside0.mk hrr
  have HLEN := Aside0.mk hlen
  have hmf := run_mkfun
  obtain ⟨ht, hst, he0, he1, hl0, hl1⟩ := spec_table hs
  obtain ⟨hg, hg0, hg1⟩ := reach_ok hs
  obtain ⟨k, hk, hmin⟩ := cls_stop hg hg0
  have hrows : leastOf ev.toNat (reachB ev st l).1 (clsTo (reachB ev st l).1 (k + 1)).1 = leastRows ev st l := ((leastRows_is hs).1.unique (least_is hg hg0 hk).1 (reach_lq hs).symm).symm
  have HTAB := Aside0.mk (isLeast_ok (leastRows_is hs).1)
  have H3 := Aside0.mk fun W (hW : Below w.heap.size w W) => reached_calls ev st A c l W (Kd.C_below hr hW) hs
  have H4 := Aside0.mk fun W A cg (hc : Kd.C (Kd.slice 3 (Kd.int .i64)) W A (reachB ev st l).1.length (reachB ev st l).1) => least_calls ev.toNat (reachB ev st l).1 A cg k 0 W hc (by omega) hg0 (by omega) hg hk hmin
  rw [show ((ev.toNat : Nat) : Int) = ev from by omega] at H4
  unfold ReachEnd at H3
  unfold LeastEnd at H4
  rw [hrows] at H4
  have HE := Aside0.mk (show (6 < (leastRows ev st l).length → auErr ev st l rk of = 3 ∧ auRk ev st l rk of = [] ∧ auM ev st l rk of = []) ∧ (¬ 6 < (leastRows ev st l).length → auErr ev st l rk of = 0 ∧ auRk ev st l rk of = rk ∧ auM ev st l rk of = auMoves rk of (leastRows ev st l) (leastRows ev st l).length) from
    ⟨fun h => by simp [auErr, auRk, auM, hs, ha, h], fun h => by simp [auErr, auRk, auM, hs, ha, h]⟩)
  generalize auErr ev st l rk of = err at *
  generalize auRk ev st l rk of = rkE at *
  generalize auM ev st l rk of = mE at *
  obtain ⟨n, rfl⟩ : ∃ n : Nat, ev = (n : Int) := ⟨ev.toNat, by omega⟩
  rw [Int.toNat_natCast] at HTAB
  generalize leastRows n st l = g at *
  generalize (reachB n st l).1 = rg at *
  have hm1 := hr1.2.1
  have hm2 := hr2.2.1
  clear hr hr1 hr2 hc1 hs ha hrk hany hof hrr ht hst hl0 hl1 hg hg0 hg1 hk hmin hrows he0 he1
  have d0 : ((of.length : Int) == (rk.length : Int)) = true := beq_iff_eq.2 (by omega)
  have d1 : ((of.length : Int) != (rk.length : Int)) = false := bne_eq_false_iff_eq.2 (by omega)
  clear hlen
  go_enter Try.func33, Try.ntmps33
  go_upto_region 1 with (fail)
  have HS := AB.start w #[.int .i64 n, .int .i64 st, .slice A l.length c]
  generalize ((w.alloc (.cells #[.int .i64 n, .int .i64 st, .slice A l.length c] 24)).alloc (.cells #[.slice none 0 0, .int .i64 0, .slice none 0 0] 44)) = w0 at *
  obtain ⟨hc0, hc1, hc2⟩ := box_cells HS.hs
  go_wp2_with fail
  refine (H1.out _ HS.hb).mono ?_
  rintro E w1 ⟨rfl, hb⟩
  have HS1 := HS.below hb
  clear hb HS hc0 hc1 hc2 H1
  go_wp2_with fail
  refine (H2.out _ HS1.hb).mono ?_
  rintro E w2 ⟨rfl, hb⟩
  have HS2 := HS1.below hb
  clear hb HS1 H2
  go_wp2_with fail
  refine (HF.out _ HS2.hb (box_cells HS2.hs).1).mono ?_
  rintro E w3 ⟨rfl, hb⟩
  have HS3 := HS2.below hb
  clear hb HS2 HF d0 d1
  go_upto_region 6 with (fail)
  go_cut [9] from 41 to 45 (fun s9 wx => ∃ (Ag : Option Addr) (cg : Nat) (Sg : Nat → Prop), s9 = .slice Ag g.length cg ∧ Aside0 (AB w wx #[.int .i64 n, .int .i64 st, .slice A l.length c]) ∧ Aside0 (Kd.R (Kd.slice 3 (Kd.int .i64)) 25 wx w.heap.size Sg (.slice Ag g.length cg) g))
  case first =>
    have HS := HS3.below (W1 := w3.drew) (below_drew (Below.refl _ _))
    clear HS3
    go_region_held3 (fun w' => w'.cell? ⟨w.heap.size, 0, none⟩ = some (.int .i64 n) ∧ w'.cell? ⟨w.heap.size, 1, none⟩ = some (.int .i64 st) ∧ w'.cell? ⟨w.heap.size, 2, none⟩ = some (.slice A l.length c))
      (first | exact box_cells (AB.hs (by assumption)) | fail) (first
      | (go_at_call 49; refine (H3.out _ HS.hb).mono ?_; rintro E w4 ⟨ov, So, rfl, ho, hb⟩; (obtain ⟨Ag, cg, rfl⟩ := Kd.R_slice ho); have HO := Aside0.mk (Kd.R_reads' ho); have HS1 := HS.below hb; clear HS hb ho)
      | (go_at_call 48; refine (H4.out _ _ _ (HO.out).2.2).mono ?_; rintro E w5 ⟨ov2, So2, rfl, ho2, hb2⟩; have HB1 := Aside0.mk HS1.hb.size; (obtain ⟨A3, c3, rfl⟩ := Kd.R_slice ho2); have HO2 := Aside0.mk ho2; have HS2 := HS1.below hb2; clear HS1 hb2 ho2)
      | fail)
    all_goals
      go_wp2_with fail
      go_meet
      exact ⟨A3, c3, So2, rfl, ⟨HS2⟩, ⟨Kd.R_lower HO2.out HB1.out⟩⟩
  case rest =>
    clear HS3 H3 H4
    obtain ⟨Ag, cg, Sg, rfl, HS, HG⟩ := hcut
    generalize wc = w4 at *
    by_cases h6 : 6 < g.length
    · have hz : (g.length : Int) > 6 := by omega
      obtain ⟨e1, e2, e3⟩ := (HE.out).1 h6
      subst e1; subst e2; subst e3
      clear HE h6
      obtain ⟨⟨hc0, hf0⟩, ⟨hc1, hf1⟩, hc2, hf2⟩ := (HS.out).res
      go_wp2
      refine bodyPost_ret (results_row_tmp rfl _ _ (w.heap.size + 1) 44 #[.slice none 0 0, .int .i64 0, .slice none 0 0] (0, 0) _ rfl ((HS.out).out _ _ _).1 Try.underlying44 rfl (by kernel_rfl)) rfl ?_
      exact AuEnd.err HS.out
    · have hz : ¬ (g.length : Int) > 6 := by omega
      obtain ⟨e1, e2, e3⟩ := (HE.out).2 h6
      have HEE := Aside0.mk (show err = 0 ∧ rkE = rk ∧ mE = auMoves rk of g g.length from ⟨e1, e2, e3⟩)
      clear e1 e2 e3
      have hg6 : g.length ≤ 6 := by omega
      clear HE h6
      go_wp2_with fail
      refine (HCL.out _ (HS.out).hb).mono ?_
      rintro E w5 ⟨v5, S5, rfl, hr5, hb5⟩
      obtain ⟨A5, c5, rfl⟩ := Kd.R_slice hr5
      have HS5 := Aside0.mk ((HS.out).below hb5)
      have HG5 := Aside0.mk (Kd.R_below HG.out hb5)
      have HR5 := Aside0.mk (Kd.R_lower hr5 ((HS.out).hb).size)
      clear hr5 hb5 HS HG HCL
      go_upto_region 10 with (fail)
      have hb6 := below_alloc (Below.refl w5.heap.size w5) (.cells #[.slice A5 rk.length c5, .int .i64 0, .slice none 0 0] 44)
      have HAS := Aside0.mk (AS.mk (w := w) (W := w5.alloc (.cells #[.slice A5 rk.length c5, .int .i64 0, .slice none 0 0] 44)) (bs := [(w.heap.size, #[.int .i64 n, .int .i64 st, .slice A l.length c])]) (ob := w5.heap.size) (B1 := (w5.alloc (.cells #[.slice A5 rk.length c5, .int .i64 0, .slice none 0 0] 44)).heap.size) (rv := .slice A5 rk.length c5) (gv := .slice Ag g.length cg) (mv := .slice none 0 0) (bv := .slice none 0 0) (Sm := fun _ => False) (rk := rk) (g := g) (M := [])
        ((HS5.out).below hb6).hb (fun p hp => by
          rw [List.mem_singleton.1 hp]
          have := (Array.getElem?_eq_some_iff.1 (HS5.out).hs).1
          have h2 := (Array.getElem?_eq_some_iff.1 (HS5.out).hr).1
          exact ⟨((HS5.out).below hb6).hs, by simp; omega, by show w.heap.size ≠ w5.heap.size; omega⟩) ((HS5.out).below hb6).hr (blk_new _ _)
        ⟨(Array.getElem?_eq_some_iff.1 (HS5.out).hr).1, by simp, Nat.le_refl _⟩ (Kd.R_mono (Kd.R_bound (Kd.R_below (HR5.out) hb6)) (fun k hk => hk.2.2.1)) (Kd.R_mono (Kd.R_bound (Kd.R_below (HG5.out) hb6)) (fun k hk => hk.2.2.1)) (Kd.R_nil _ _ _ _ _))
      clear hb6 HS5 HG5 HR5
      generalize hB1 : (w5.alloc (.cells #[.slice A5 rk.length c5, .int .i64 0, .slice none 0 0] 44)).heap.size = B1 at *
      clear hB1
      generalize (w5.alloc (.cells #[.slice A5 rk.length c5, .int .i64 0, .slice none 0 0] 44)) = w6 at *
      generalize w5.heap.size = ob at *
      go_wp2
      go_loopg [55] g.length (fun gg v55 wi => ∃ (q : Nat) (bv : Value) (Sm : Nat → Prop), q ≤ g.length ∧ g.length - q ≤ gg ∧ v55 = .int .i64 q ∧
        Aside0 (AS w wi [(w.heap.size, #[.int .i64 n, .int .i64 st, .slice A l.length c])] ob B1 (.slice A5 rk.length c5) (.slice Ag g.length cg) bv bv Sm rk g (auMoves rk of g q)))
      case atStart => exact ⟨0, _, _, by omega, by omega, rfl, HAS⟩
      case round =>
        clear HAS
        obtain ⟨q, bv, Sm, hqg, hgg, rfl, HAS⟩ := hrel
        by_cases hqt : q < g.length
        · have hqz : (q : Int) < (g.length : Int) := by omega
          obtain ⟨adg, Ay, cy, e0, hxy, hry⟩ := R_rowAt (HAS.out).hg q hqt
          cases e0
          have HLY := Aside0.mk hry
          clear hry
          have HTR := Aside0.mk (trow (HTAB.out).1 (show domS g q from ⟨by omega, by omega⟩))
          have HSC := Aside0.mk (auMoves_succ rk of g q)
          generalize Q.rd_L1 g (q : Int) = y at *
          go_upto_region 14 with ((with_reducible refine gate_dst (N := 62) rfl ?_); refine Kd.R_make kA2 B1 79 rfl (N := 62) rfl 75 _ _ rfl (rk.length : Int) rfl rfl Try.underlying75 (.slice none 0 0) 24 info79 rfl (by decide) (by omega) [] (ok := fun k => wr.heap.size ≤ k) (okp := fun _ => False) ⟨_, rfl, Kd.R_nil _ _ _ _ _⟩ (fun _ hk => hk.elim) (Nat.le_refl _) (by omega) (by omega) (w0 := wr) (below_base (Below.refl _ _) ((HAS.out).h1).2.2) ((HAS.out).h1).2.2 ?_; intro v7 w7 hr7 hb7 hg7 hnew7)
          rw [Int.toNat_natCast] at hr7
          obtain ⟨wb, hwb, _⟩ := hnew7
          obtain ⟨cw, hv7⟩ := R_formB hr7 hwb
          rw [List.length_replicate] at hv7
          subst hv7
          have HAL := Aside0.mk (AL.mk (lv := .slice none 0 0) (lst := []) (Sl := fun _ => False) ((HAS.out).bound.grown hg7 (fun k hk => by cases hk)) hr7 (Kd.R_nil _ _ _ _ _) (R_low HLY.out hg7 (fun k hk => by cases hk)) (fun k ha hb => Nat.lt_irrefl _ (Nat.lt_of_lt_of_le ha.2 hb)) (fun _ _ h => h) (fun _ _ h => h))
          clear hr7 hb7 hg7 hwb HAS hxy
          have HYL := Aside0.mk (HTR.out).1
          have HYR := Aside0.mk (HTR.out).2
          clear HTR
          have HGO := Aside0.mk (show ∀ f : Nat, f < rk.length → auGo of y q f < (g.length : Int) from fun f hf => by
            unfold auGo
            split
            · rename_i h
              obtain ⟨e, he⟩ : ∃ e : Nat, rd of f = e := ⟨(rd of f).toNat, by omega⟩
              have h2 := HOR.out f hf
              rw [he] at h2 ⊢
              exact ((HYR.out) _ (rd_mem (k := e) (by have := HYL.out; omega))).2
            · omega)
          go_wp2
          go_loopg [65] rk.length (fun gg2 v65 wi => ∃ (f : Nat) (Sm Sw : Nat → Prop), f ≤ rk.length ∧ rk.length - f ≤ gg2 ∧ v65 = .int .i64 f ∧
            Aside0 (AL w wi [(w.heap.size, #[.int .i64 n, .int .i64 st, .slice A l.length c])] ob B1 (.slice A5 rk.length c5) (.slice (some adg) g.length cg) bv bv rk g (auMoves rk of g q) (.slice Ay y.length cy) y (.slice (some ⟨wb, 0, none⟩) rk.length cw) (.slice none 0 0) Sm Sw (fun _ => False) (auRow rk of y q f ++ List.replicate (rk.length - f) []) []))
          case atStart => exact ⟨0, _, _, by omega, by omega, rfl, HAL⟩
          case round =>
            clear HAL Sm
            obtain ⟨f, Sm, Sw, hfl, hg2, rfl, HAL⟩ := hrel
            by_cases hft : f < rk.length
            · have hfz : (f : Int) < (rk.length : Int) := by omega
              obtain ⟨adr, e0, hxr⟩ := Kd.at_int (Kd.C_below HRK.out (HAL.out).hA.hb) (f : Int) (by omega) hfz
              cases e0
              obtain ⟨ado, e0, hxo⟩ := Kd.at_int (Kd.C_below HOF.out (HAL.out).hA.hb) (f : Int) (by omega) (by have := HLEN.out; omega)
              cases e0
              rw [Int.toNat_natCast] at hxr hxo
              have hfo : (f : Int) < (of.length : Int) := by have := HLEN.out; omega
              have HAF := Aside0.mk (show auAt rk of y q f = if auGo of y q f < 0 then [] else [needL (rd rk f) (auGo of y q f)] from rfl)
              have HRF := Aside0.mk (auRow_succ rk of y q f)
              have HRL := Aside0.mk (auRow_len rk of y q f)
              have hr4 := HRR.out f hft
              obtain ⟨r, hrn⟩ : ∃ r : Nat, rd rk (f : Int) = r := ⟨(rd rk f).toNat, by omega⟩
              rw [hrn] at hxr HAF hr4
              clear hrn
              have hor := HOR.out f hft
              have HGD := Aside0.mk (show auGo of y q f = if rd of f ≥ 0 then rd y (rd of f) else (q : Int) from rfl)
              have htt := HGO.out f hft
              generalize auGo of y q f = tt at *
              generalize rd of (f : Int) = e at *
              have HTT := Aside0.mk htt
              clear htt
              obtain ⟨hor1, hor2⟩ := hor
              go_upto_if 75 with (fail)
              go_cut [16] from 76 to 82 (fun s16 wx => s16 = .int .i64 tt ∧ wr = wx)
              case first =>
                by_cases he : e ≥ 0
                · obtain ⟨en, rfl⟩ : ∃ en : Nat, e = (en : Int) := ⟨e.toNat, by omega⟩
                  have hey : (en : Int) < (y.length : Int) := by have := HYL.out; omega
                  obtain ⟨ady, e0, hxy⟩ := Kd.at_int (Kd.R_reads' (HAL.out).hY).2.2 (en : Int) (by omega) hey
                  cases e0
                  rw [if_pos he] at HGD
                  rw [← HGD.out, Int.toNat_natCast] at hxy
                  go_wp2
                  go_meet
                  exact ⟨rfl, rfl⟩
                · rw [if_neg he] at HGD
                  go_wp2
                  go_meet
                  exact ⟨by rw [HGD.out], rfl⟩
              case rest =>
                obtain ⟨rfl, rfl⟩ := hcut
                clear hxr hxo
                by_cases ht : tt < 0
                · rw [if_pos ht] at HAF
                  go_wp2
                  go_roundg (rk.length - (f + 1))
                  case measure => omega
                  case rel =>
                    refine ⟨f + 1, Sm, Sw, by omega, by omega, by go_num, ?_⟩
                    rw [HRF.out, HAF.out]
                    have e : (auRow rk of y q f ++ List.replicate (rk.length - f) []) = (auRow rk of y q f ++ [[]]) ++ List.replicate (rk.length - (f + 1)) [] := by
                      rw [show rk.length - f = (rk.length - (f + 1)) + 1 from by omega, List.replicate_succ, List.append_assoc]; rfl
                    rw [← e]
                    exact HAL
                · rw [if_neg ht] at HAF
                  go_upto_region 22 with (fail)
                  have HAL1 := Aside0.mk (HAL.out).lit
                  clear HAL
                  go_wp2
                  go_loopg [17, 87] r (fun gg3 v17 v87 wi => ∃ (k : Nat) (Sm Sw Sl : Nat → Prop), k ≤ r ∧ r - k ≤ gg3 ∧ v87 = .int .i64 k ∧
                    Aside0 (AL w wi [(w.heap.size, #[.int .i64 n, .int .i64 st, .slice A l.length c])] ob B1 (.slice A5 rk.length c5) (.slice (some adg) g.length cg) bv bv rk g (auMoves rk of g q) (.slice Ay y.length cy) y (.slice (some ⟨wb, 0, none⟩) rk.length cw) v17 Sm Sw Sl (auRow rk of y q f ++ List.replicate (rk.length - f) []) (needTo k tt)))
                  case atStart => exact ⟨0, _, _, _, by omega, by omega, rfl, HAL1⟩
                  case round =>
                    clear HAL1 Sm Sw
                    obtain ⟨k, Sm, Sw, Sl, hkr, hg3, rfl, HAL⟩ := hrel
                    obtain ⟨A17, c17, rfl⟩ := Kd.R_slice (HAL.out).hL
                    by_cases hkt : k < r
                    · have hkz : (k : Int) < (r : Int) := by omega
                      have HNS := Aside0.mk (needTo_succ k tt)
                      have hnl := needTo_len k tt
                      generalize needTo k tt = lst at *
                      have hll : (lst.length + 1) * 16 ≤ 140737488355328 := by omega
                      clear hnl
                      go_wp2_with ((with_reducible refine gate_builtin (b := .append) (xs := #[.tmp 90, .tmp 94]) rfl ?_); at_builtin; refine Kd.R_append Q.k78 (w0 := wr) B1 rfl (.tmp 90) (.tmp 94) 76 78 (.agg #[.int .i64 0, .int .i64 0]) 16 rfl Try.underlying76 info78 rfl (by decide) (by omega) (.slice A17 lst.length c17) lst ⟨(k : Int), tt⟩ [.int .i64 (k : Int), .int .i64 tt] (fun k => Sl k ∨ wr.heap.size ≤ k) (fun _ => False) rfl rfl (Q.k78_mkM _ _ _ ⟨(k : Int), tt⟩) (fun _ hk => hk.elim) (fun k hk => .inr hk) (Kd.R_mono (HAL.out).hL (fun _ hk => .inl hk)) (below_base (Below.refl _ _) ((HAL.out).hA.h1).2.2) ((HAL.out).hA.h1).2.2 hll ?_; intro v5 w5 ho5 hb5 hg5 hat5; have HAL5 := Aside0.mk ((HAL.out).appL ho5 hg5); clear ho5 hb5 hg5 hat5 HAL)
                      go_roundg (r - (k + 1))
                      case measure => omega
                      case rel =>
                        refine ⟨k + 1, fun k => Sm k ∧ k < wr.heap.size, fun k => Sw k ∧ k < wr.heap.size, fun k => Sl k ∨ wr.heap.size ≤ k, by omega, by omega, by go_num, ?_⟩
                        rw [HNS.out]
                        exact HAL5
                    · have hkz : ¬ (k : Int) < (r : Int) := by omega
                      obtain rfl : k = r := by omega
                      have HNE := Aside0.mk (show auAt rk of y q f = [needTo k tt] from HAF.out)
                      have HNL := Aside0.mk (needTo_len k tt)
                      generalize needTo k tt = lst at *
                      have HST := Aside0.mk ((HAL.out).store f hft)
                      obtain ⟨u, hcu, hfu, hsu⟩ := R_cell1 (Kd.R_below (HAL.out).hW (below_alloc (Below.refl wr.heap.size wr) (.cells #[.slice A17 lst.length c17] 76))) f hft
                      clear HAL
                      go_wp2
                      clear hcu hfu hsu
                      go_roundg (rk.length - (f + 1))
                      case measure => omega
                      case rel =>
                        refine ⟨f + 1, fun k => Sm k ∧ k < wr.heap.size, fun k => (Sw k ∨ Sl k) ∨ k = wr.heap.size, by omega, by omega, by go_num, ?_⟩
                        rw [HRF.out, HNE.out, ← set_row HRL.out hft]
                        exact HST
            · have hfz : ¬ (f : Int) < (rk.length : Int) := by omega
              obtain rfl : f = rk.length := by omega
              rw [Nat.sub_self, List.replicate_zero, List.append_nil] at HAL
              have hml := auMoves_len rk of g q
              generalize auRow rk of y q rk.length = row at *
              generalize auMoves rk of g q = M at *
              obtain ⟨Am, cm, rfl⟩ := Kd.R_slice (HAL.out).hA.hM
              have hlo : (M.length + 1) * 24 ≤ 140737488355328 := by omega
              clear hml
              have hz2 : wr.cell? ⟨ob, 2, none⟩ = some (.slice Am M.length cm) := (blk_cell (HAL.out).hA.ho 2).trans rfl
              go_wp2_with ((with_reducible refine gate_builtin (b := .append) (xs := #[.tmp 104, .tmp 106]) rfl ?_); at_builtin; refine Kd.R_append kA3 (w0 := wr) B1 rfl (.tmp 104) (.tmp 106) 42 75 (.slice none 0 0) 24 rfl Try.underlying42 info75 rfl (by decide) (by omega) (.slice Am M.length cm) M row [.slice (some ⟨wb, 0, none⟩) rk.length cw] (fun k => (Sm k ∨ Sw k) ∨ wr.heap.size ≤ k) Sw rfl rfl ⟨_, rfl, (HAL.out).hW⟩ (fun k hk => ⟨.inl (.inr hk), fun he => (HAL.out).dmw k ((HAL.out).hA.hM.1 k he.symm) hk⟩) (fun k hk => .inr hk) (Kd.R_mono (HAL.out).hA.hM (fun _ hk => .inl (.inl hk))) (below_base (Below.refl _ _) ((HAL.out).hA.h1).2.2) ((HAL.out).hA.h1).2.2 hlo ?_; intro v5 w5 ho5 hb5 hg5 hat5; have HP5 := Aside0.mk ((HAL.out).hA.appM ho5 hg5); clear ho5 hb5 hg5 hat5 HAL hz2; (obtain ⟨A6, c6, e6⟩ := Kd.R_slice (HP5.out).hM); rw [List.length_append, List.length_singleton] at e6; subst e6; have hcl : w5.cell? ⟨ob, 2, none⟩ = some (.slice Am M.length cm) := (blk_cell (HP5.out).ho 2).trans rfl; have hfz : w5.frozen? ⟨ob, 2, none⟩ = false := blk_frozen (HP5.out).ho 2)
              have HP6 := Aside0.mk ((HP5.out).put (.slice A6 (M.length + 1) c6))
              go_roundg (g.length - (q + 1))
              case measure => omega
              case rel =>
                refine ⟨q + 1, .slice A6 (M.length + 1) c6, fun k => (Sm k ∨ Sw k) ∨ wr.heap.size ≤ k, by omega, by omega, by go_num, ?_⟩
                rw [HSC.out]
                exact HP6
        · have hqz : ¬ (q : Int) < (g.length : Int) := by omega
          obtain rfl : q = g.length := by omega
          obtain ⟨Am, cm, rfl⟩ := Kd.R_slice (HAS.out).hM
          have hz0 : wr.cell? ⟨ob, 0, none⟩ = some (.slice A5 rk.length c5) := (blk_cell (HAS.out).ho 0).trans rfl
          have hz1 : wr.cell? ⟨ob, 1, none⟩ = some (.int .i64 0) := (blk_cell (HAS.out).ho 1).trans rfl
          have hz2 : wr.cell? ⟨ob, 2, none⟩ = some (.slice Am (auMoves rk of g g.length).length cm) := (blk_cell (HAS.out).ho 2).trans rfl
          have hc0 : wr.cell? ⟨w.heap.size + 1, 0, none⟩ = some (.slice none 0 0) := (blk_cell (HAS.out).hr 0).trans rfl
          have hc1 : wr.cell? ⟨w.heap.size + 1, 1, none⟩ = some (.int .i64 0) := (blk_cell (HAS.out).hr 1).trans rfl
          have hc2 : wr.cell? ⟨w.heap.size + 1, 2, none⟩ = some (.slice none 0 0) := (blk_cell (HAS.out).hr 2).trans rfl
          have hf0 := blk_frozen (HAS.out).hr 0
          have hf1 := blk_frozen (HAS.out).hr 1
          have hf2 := blk_frozen (HAS.out).hr 2
          go_wp2
          refine bodyPost_ret (results_row_tmp rfl _ _ (w.heap.size + 1) 44 #[.slice A5 rk.length c5, .int .i64 0, .slice Am (auMoves rk of g g.length).length cm] (0, 0) _ rfl ((HAS.out).fin _ _ _).1 Try.underlying44 rfl (by kernel_rfl)) rfl ?_
          obtain ⟨e1, e2, e3⟩ := HEE.out
          rw [e1, e2, e3]
          exact ⟨A5, Am, c5, cm, _, _, rfl, ((HAS.out).fin _ _ _).2.1, ((HAS.out).fin _ _ _).2.2.1, ((HAS.out).fin _ _ _).2.2.2⟩
end Go.Proofs.Ytmphigeefppfpaa.H
namespace Go.Proofs.Ytmphigeefppfpaa.H
open Go.RowKit Go.Proofs.YtmphigeefppfpaaW.PrintWords Go.Proofs.YtmphigeefppfpaaW.PrintLast Go.Proofs.YtmphigeefppfpaaW.PrintMore
set_option linter.unusedVariables false
theorem sauto_calls (ev st : Int) (A : Option Addr) (c : Nat) (l : List (List Int)) (A1 A2 : Option Addr) (c1 c2 : Nat) (rk of : List Int) (w : World) (hr : Kd.C (Kd.slice 3 (Kd.int .i64)) w A l.length l)
    (hr1 : Kd.C (Kd.int .i64) w A1 rk.length rk) (hc1 : rk.length ≤ c1) (hr2 : Kd.C (Kd.int .i64) w A2 of.length of) :
    Calls Try.prog 33 #[.agg #[.int .i64 ev, .int .i64 st, .slice A l.length c], .slice A1 rk.length c1, .slice A2 of.length c2] w (AuEnd (auErr ev st l rk of) (auRk ev st l rk of) (auM ev st l rk of) w) := by
  cases hs : specOk ev st l with
  | false =>
    have h := sauto_bad ev st A c l A1 A2 c1 c2 rk of w hr hr1 hc1 hr2 hs
    rwa [show auErr ev st l rk of = 11 from by simp [auErr, hs], show auRk ev st l rk of = [] from by simp [auRk, auErr, hs], show auM ev st l rk of = [] from by simp [auM, auErr, hs]]
  | true =>
    cases ha : auArgs ev rk of with
    | false =>
      have h := sauto_args ev st A c l A1 A2 c1 c2 rk of w hr hr1 hc1 hr2 hs ha
      rwa [show auErr ev st l rk of = 2 from by simp [auErr, hs, ha], show auRk ev st l rk of = [] from by simp [auRk, auErr, hs, ha], show auM ev st l rk of = [] from by simp [auM, auErr, hs, ha]]
    | true => exact sauto_go ev st A c l A1 A2 c1 c2 rk of w hr hr1 hc1 hr2 hs ha
section
variable {w W W1 W5 W6 : World} {va vb : Array Value} {ob lb B1 : Nat} {rv gv mv bv wv lv tv wv1 yv : Value} {Sm Sw Sl St Sg : Nat → Prop} {rk y : List Int} {g : List (List Int)} {M : List (List (List (List Q.S78)))} {row : List (List (List Q.S78))} {lst : List Q.S78} {alts : List (List Q.S78)} {bs : List (Nat × Array Value)}
structure BX (w W : World) (va vb : Array Value) (lb : Nat) (gv : Value) (g : List (List Int)) (Sg : Nat → Prop) : Prop where
  hB : AB w W va
  hl : W.heap[lb]? = some (.cells vb 24 (0, 0))
  hlt : w.heap.size + 1 < lb
  hg : Kd.R (Kd.slice 3 (Kd.int .i64)) 25 W w.heap.size Sg gv g
theorem BX.below (h : BX w W va vb lb gv g Sg) (hb : Below W.heap.size W W1) : BX w W1 va vb lb gv g Sg := ⟨h.hB.below hb, blk_below h.hl hb, h.hlt, Kd.R_below h.hg hb⟩
theorem below_none (h : W.grownBy W1 none) : Below W.heap.size W W1 := ⟨h.os, h.tape, h.output, h.size, fun i hi => h.block i hi (by simp)⟩
theorem BX.start (h : BX w W5 va vb lb gv g Sg) (ho : W5.heap[ob]? = some (.cells #[.slice none 0 0, .int .i64 0, .slice none 0 0] 44 (0, 0))) (hlo : lb < ob) {ok : Nat → Prop} (hr : Kd.R (Kd.int .i64) 3 W6 w.heap.size ok rv rk) (hg : W5.grownBy W6 none) :
    AS w (W6.setCell ⟨ob, 0, none⟩ rv) [(w.heap.size, va), (lb, vb)] ob (W6.setCell ⟨ob, 0, none⟩ rv).heap.size rv gv (.slice none 0 0) (.slice none 0 0) (fun _ => False) rk g [] := by
  have hb := below_none hg
  have h6 := h.below hb
  have ho6 := blk_below ho hb
  have gs := grown_setCell W6 ⟨ob, 0, none⟩ rv
  have hlt := h.hlt
  have hol := (Array.getElem?_eq_some_iff.1 ho6).1
  have hsz := gs.size
  refine ⟨pw_below_grown h6.hB.hb _ h6.hB.hb.size gs (fun k hk => by cases hk; show _ ≤ ob; omega), fun p hp => ?_, blk_grown h6.hB.hr gs (fun e => by injection e with e; have e2 : w.heap.size + 1 = ob := e; omega), blk_set ho6 0 rv, ⟨by omega, by omega, Nat.le_refl _⟩,
    Kd.R_mono (Kd.R_bound (R_offrow hr ho6 (by simp [Kd.int, Kd.scalar]) gs)) (fun k hk => hk.2.2.1), Kd.R_mono (Kd.R_bound (R_offrow h6.hg ho6 (by simp [Kd.slice, Kd.int, Kd.scalar]) gs)) (fun k hk => hk.2.2.1), Kd.R_nil _ _ _ _ _⟩
  simp only [List.mem_cons, List.not_mem_nil, or_false] at hp
  rcases hp with rfl | rfl
  · exact ⟨blk_grown h6.hB.hs gs (fun e => by injection e with e; have e2 : w.heap.size = ob := e; omega), by show w.heap.size < _; omega, by show w.heap.size ≠ ob; omega⟩
  · exact ⟨blk_grown h6.hl gs (fun e => by injection e with e; have e2 : lb = ob := e; omega), by show lb < _; omega, by show lb ≠ ob; omega⟩
structure AT (w W : World) (bs : List (Nat × Array Value)) (ob B1 : Nat) (rv gv mv bv : Value) (rk : List Int) (g : List (List Int)) (M : List (List (List (List Q.S78)))) (wv tv : Value) (Sm Sw St : Nat → Prop) (row : List (List (List Q.S78))) (alts : List (List Q.S78)) : Prop where
  hA : AS w W bs ob B1 rv gv mv bv Sm rk g M
  hW : Kd.R kA2 79 W B1 Sw wv row
  hT : Kd.R kA1 76 W B1 St tv alts
  dmw : Disj Sm Sw
  dmt : Disj Sm St
  dwt : Disj Sw St
theorem AL.start (h : AS w W bs ob B1 rv gv mv bv Sm rk g M) : AL w W bs ob B1 rv gv mv bv rk g M rv rk (.slice none 0 0) (.slice none 0 0) Sm (fun _ => False) (fun _ => False) [] [] :=
  ⟨h, Kd.R_nil _ _ _ _ _, Kd.R_nil _ _ _ _ _, h.hRk, fun _ _ h => h, fun _ _ h => h, fun _ _ h => h⟩
theorem AL.noalt (h : AL w W bs ob B1 rv gv mv bv rk g M yv y wv lv Sm Sw Sl row lst) : AT w W bs ob B1 rv gv mv bv rk g M wv (.slice none 0 0) Sm Sw (fun _ => False) row [] :=
  ⟨h.hA, h.hW, Kd.R_nil _ _ _ _ _, h.dmw, fun _ _ h => h, fun _ _ h => h⟩
theorem AL.alt (h : AL w W bs ob B1 rv gv mv bv rk g M yv y wv lv Sm Sw Sl row lst) (hq : Kd.R kA1 76 W1 B1 (fun k => Sl k ∨ W.heap.size ≤ k) tv alts) (hg : W.grownBy W1 none) :
    AT w W1 bs ob B1 rv gv mv bv rk g M wv tv (fun k => Sm k ∧ k < W.heap.size) (fun k => Sw k ∧ k < W.heap.size) (fun k => Sl k ∨ W.heap.size ≤ k) row alts :=
  ⟨(h.hA.bound).grown hg (fun k hk => by cases hk), R_stay h.hW hg (fun k hk => by cases hk), hq, h.dmw.less _, (h.dml.symm.fresh _).symm, (h.dwl.symm.fresh _).symm⟩
theorem AT.appW (h : AT w W bs ob B1 rv gv mv bv rk g M wv tv Sm Sw St row alts) (hq : Kd.R kA2 79 W1 B1 (fun k => (Sw k ∨ St k) ∨ W.heap.size ≤ k) wv1 (row ++ [alts])) (hg : W.grownBy W1 wv.ownBlock) :
    AL w W1 bs ob B1 rv gv mv bv rk g M rv rk wv1 (.slice none 0 0) (fun k => Sm k ∧ k < W.heap.size) (fun k => (Sw k ∨ St k) ∨ W.heap.size ≤ k) (fun _ => False) (row ++ [alts]) [] := by
  have hA := (h.hA.bound).grown hg (fun k hk => ⟨Kd.R_base h.hW k hk, fun hs => h.dmw k hs.1 (h.hW.1 k hk)⟩)
  refine ⟨hA, hq, Kd.R_nil _ _ _ _ _, hA.hRk, fun k ha hb => ?_, fun _ _ h => h, fun _ _ h => h⟩
  rcases hb with (hb | hb) | hb
  · exact h.dmw k ha.1 hb
  · exact h.dmt k ha.1 hb
  · have := ha.2; omega
end
set_option maxHeartbeats 4000000 in
theorem rauto_bad (ev st : Int) (A : Option Addr) (c : Nat) (l : List (List Int)) (A1 A2 : Option Addr) (c1 c2 : Nat) (rk of : List Int) (w : World) (hr : Kd.C (Kd.slice 3 (Kd.int .i64)) w A l.length l) (hc : l.length ≤ c)
    (hr1 : Kd.C (Kd.int .i64) w A1 rk.length rk) (hc1 : rk.length ≤ c1) (hr2 : Kd.C (Kd.int .i64) w A2 of.length of) (h : specOk ev st l = false) :
    Calls Try.prog 34 #[.agg #[.int .i64 ev, .int .i64 st, .slice A l.length c], .slice A1 rk.length c1, .slice A2 of.length c2] w (AuEnd 11 [] [] w) := by
  have H1 := Aside0.mk fun W (hW : Below w.heap.size w W) => ris_calls ev st A c l W (Kd.C_below hr hW) hc
  rw [h] at H1
  unfold SameEnd at H1
  clear hr hr1 hr2 hc1 h
  go_enter Try.func34, Try.ntmps34
  go_upto_region 1 with (fail)
  have HS := AB.start w #[.int .i64 ev, .int .i64 st, .slice A l.length c]
  generalize ((w.alloc (.cells #[.int .i64 ev, .int .i64 st, .slice A l.length c] 24)).alloc (.cells #[.slice none 0 0, .int .i64 0, .slice none 0 0] 44)) = w0 at *
  obtain ⟨hc0, hc1, hc2⟩ := box_cells HS.hs
  go_wp2_with fail
  refine (H1.out _ HS.hb).mono ?_
  rintro E w1 ⟨rfl, hb⟩
  have HS1 := HS.below hb
  clear hb HS hc0 hc1 hc2 H1
  obtain ⟨⟨hc0, hf0⟩, ⟨hc1, hf1⟩, hc2, hf2⟩ := HS1.res
  go_wp2
  refine bodyPost_ret (results_row_tmp rfl _ _ (w.heap.size + 1) 44 #[.slice none 0 0, .int .i64 0, .slice none 0 0] (0, 0) _ rfl (HS1.out _ _ _).1 Try.underlying44 rfl (by kernel_rfl)) rfl ?_
  exact AuEnd.err HS1
set_option maxHeartbeats 4000000 in
theorem rauto_args (ev st : Int) (A : Option Addr) (c : Nat) (l : List (List Int)) (A1 A2 : Option Addr) (c1 c2 : Nat) (rk of : List Int) (w : World) (hr : Kd.C (Kd.slice 3 (Kd.int .i64)) w A l.length l) (hc : l.length ≤ c)
    (hr1 : Kd.C (Kd.int .i64) w A1 rk.length rk) (hc1 : rk.length ≤ c1) (hr2 : Kd.C (Kd.int .i64) w A2 of.length of) (h : specOk ev st l = true) (ha : auArgs ev rk of = false) :
    Calls Try.prog 34 #[.agg #[.int .i64 ev, .int .i64 st, .slice A l.length c], .slice A1 rk.length c1, .slice A2 of.length c2] w (AuEnd 2 [] [] w) := by
  have H1 := Aside0.mk fun W (hW : Below w.heap.size w W) => ris_calls ev st A c l W (Kd.C_below hr hW) hc
  rw [h] at H1
  unfold SameEnd at H1
  have H2 := Aside0.mk fun W (hW : Below w.heap.size w W) => ranks6_calls A1 c1 rk W (Kd.C_below hr1 hW) hc1
  have HOF := Aside0.mk hr2
  have hm1 := hr1.2.1
  have hm2 := hr2.2.1
  clear hr hr1 hr2 hc1 h
  cases hrk : ranksB rk with
  | false =>
    rw [hrk] at H2
    clear ha hrk
    go_enter Try.func34, Try.ntmps34
    go_upto_region 1 with (fail)
    have HS := AB.start w #[.int .i64 ev, .int .i64 st, .slice A l.length c]
    generalize ((w.alloc (.cells #[.int .i64 ev, .int .i64 st, .slice A l.length c] 24)).alloc (.cells #[.slice none 0 0, .int .i64 0, .slice none 0 0] 44)) = w0 at *
    obtain ⟨hc0, hc1, hc2⟩ := box_cells HS.hs
    go_wp2_with fail
    refine (H1.out _ HS.hb).mono ?_
    rintro E w1 ⟨rfl, hb⟩
    have HS1 := HS.below hb
    clear hb HS hc0 hc1 hc2 H1
    go_wp2_with fail
    refine (H2.out _ HS1.hb).mono ?_
    rintro E w2 ⟨rfl, hb⟩
    have HS2 := HS1.below hb
    clear hb HS1 H2
    obtain ⟨⟨hc0, hf0⟩, ⟨hc1, hf1⟩, hc2, hf2⟩ := HS2.res
    go_wp2
    refine bodyPost_ret (results_row_tmp rfl _ _ (w.heap.size + 1) 44 #[.slice none 0 0, .int .i64 0, .slice none 0 0] (0, 0) _ rfl (HS2.out _ _ _).1 Try.underlying44 rfl (by kernel_rfl)) rfl ?_
    exact AuEnd.err HS2
  | true =>
    rw [hrk] at H2
    by_cases hlen : of.length = rk.length
    · have d0 : ((of.length : Int) == (rk.length : Int)) = true := beq_iff_eq.2 (by omega)
      have d1 : ((of.length : Int) != (rk.length : Int)) = false := bne_eq_false_iff_eq.2 (by omega)
      have HANY := Aside0.mk (show of.any (auBad ev) = true from by
        cases h : of.any (auBad ev) with
        | true => rfl
        | false => simp [auArgs, hrk, hlen, h] at ha)
      clear ha hrk hlen
      go_enter Try.func34, Try.ntmps34
      go_upto_region 1 with (fail)
      have HS := AB.start w #[.int .i64 ev, .int .i64 st, .slice A l.length c]
      generalize ((w.alloc (.cells #[.int .i64 ev, .int .i64 st, .slice A l.length c] 24)).alloc (.cells #[.slice none 0 0, .int .i64 0, .slice none 0 0] 44)) = w0 at *
      obtain ⟨hc0, hc1, hc2⟩ := box_cells HS.hs
      go_wp2_with fail
      refine (H1.out _ HS.hb).mono ?_
      rintro E w1 ⟨rfl, hb⟩
      have HS1 := HS.below hb
      clear hb HS hc0 hc1 hc2 H1
      go_wp2_with fail
      refine (H2.out _ HS1.hb).mono ?_
      rintro E w2 ⟨rfl, hb⟩
      have HS2 := Aside0.mk (HS1.below hb)
      clear hb HS1 H2
      go_wp2
      clear d0 d1
      go_loopg [37] of.length (fun gg v37 wi => ∃ f : Nat, f ≤ of.length ∧ of.length - f ≤ gg ∧ v37 = .int .i64 f ∧ Aside0 (∀ j : Nat, j < f → auBad ev (rd of j) = false) ∧ Aside0 (AB w wi #[.int .i64 ev, .int .i64 st, .slice A l.length c]))
      case atStart => exact ⟨0, by omega, by omega, rfl, ⟨fun j h => absurd h (Nat.not_lt_zero _)⟩, HS2⟩
      case round =>
        clear HS2
        obtain ⟨f, hfl, hgg, rfl, HNO, HS⟩ := hrel
        by_cases hft : f < of.length
        · have hfz : (f : Int) < (of.length : Int) := by omega
          obtain ⟨ado, e0, hxo⟩ := Kd.at_int (Kd.C_below HOF.out (HS.out).hb) (f : Int) (by omega) hfz
          cases e0
          rw [Int.toNat_natCast] at hxo
          obtain ⟨hc0, hc1, hc2⟩ := box_cells (HS.out).hs
          have HN2 := Aside0.mk (show auBad ev (rd of f) = false → ∀ j : Nat, j < f + 1 → auBad ev (rd of j) = false from fun hb j hj => by
            by_cases e : j = f
            · subst e; exact hb
            · exact HNO.out j (by omega))
          generalize rd of (f : Int) = e at *
          by_cases h1 : e < -1
          · have h2 : decide (e < -1) = true := by simpa using h1
            clear HN2
            obtain ⟨⟨hk0, hf0⟩, ⟨hk1, hf1⟩, hk2, hf2⟩ := (HS.out).res
            go_wp2
            refine bodyPost_ret (results_row_tmp rfl _ _ (w.heap.size + 1) 44 #[.slice none 0 0, .int .i64 0, .slice none 0 0] (0, 0) _ rfl ((HS.out).out _ _ _).1 Try.underlying44 rfl (by kernel_rfl)) rfl ?_
            exact AuEnd.err HS.out
          · have h2 : decide (e < -1) = false := by simpa using h1
            by_cases h3 : e ≥ ev
            · have h4 : decide (e ≥ ev) = true := by simpa using h3
              clear HN2
              obtain ⟨⟨hk0, hf0⟩, ⟨hk1, hf1⟩, hk2, hf2⟩ := (HS.out).res
              go_wp2
              refine bodyPost_ret (results_row_tmp rfl _ _ (w.heap.size + 1) 44 #[.slice none 0 0, .int .i64 0, .slice none 0 0] (0, 0) _ rfl ((HS.out).out _ _ _).1 Try.underlying44 rfl (by kernel_rfl)) rfl ?_
              exact AuEnd.err HS.out
            · have h4 : decide (e ≥ ev) = false := by simpa using h3
              have HN3 := Aside0.mk (HN2.out (by rw [auBad, h2, h4]; rfl))
              clear HN2
              go_wp2
              go_roundg (of.length - (f + 1))
              case measure => omega
              case rel => exact ⟨f + 1, by omega, by omega, by go_num, HN3, HS⟩
        · exfalso
          obtain ⟨x, hx, hb⟩ := List.any_eq_true.1 HANY.out
          obtain ⟨j, hj, rfl⟩ := List.getElem_of_mem hx
          have := HNO.out j (by omega)
          rw [rd_at hj] at this
          rw [this] at hb
          cases hb
    · have d0 : ((of.length : Int) == (rk.length : Int)) = false := beq_eq_false_iff_ne.2 (by omega)
      have d1 : ((of.length : Int) != (rk.length : Int)) = true := bne_iff_ne.2 (by omega)
      clear ha hrk hlen
      go_enter Try.func34, Try.ntmps34
      go_upto_region 1 with (fail)
      have HS := AB.start w #[.int .i64 ev, .int .i64 st, .slice A l.length c]
      generalize ((w.alloc (.cells #[.int .i64 ev, .int .i64 st, .slice A l.length c] 24)).alloc (.cells #[.slice none 0 0, .int .i64 0, .slice none 0 0] 44)) = w0 at *
      obtain ⟨hc0, hc1, hc2⟩ := box_cells HS.hs
      go_wp2_with fail
      refine (H1.out _ HS.hb).mono ?_
      rintro E w1 ⟨rfl, hb⟩
      have HS1 := HS.below hb
      clear hb HS hc0 hc1 hc2 H1
      go_wp2_with fail
      refine (H2.out _ HS1.hb).mono ?_
      rintro E w2 ⟨rfl, hb⟩
      have HS2 := HS1.below hb
      clear hb HS1 H2
      obtain ⟨⟨hc0, hf0⟩, ⟨hc1, hf1⟩, hc2, hf2⟩ := HS2.res
      go_wp2
      refine bodyPost_ret (results_row_tmp rfl _ _ (w.heap.size + 1) 44 #[.slice none 0 0, .int .i64 0, .slice none 0 0] (0, 0) _ rfl (HS2.out _ _ _).1 Try.underlying44 rfl (by kernel_rfl)) rfl ?_
      exact AuEnd.err HS2
end Go.Proofs.Ytmphigeefppfpaa.H
namespace Go.Proofs.Ytmphigeefppfpaa.H
open Go.RowKit Go.Proofs.YtmphigeefppfpaaW.PrintWords Go.Proofs.YtmphigeefppfpaaW.PrintLast Go.Proofs.YtmphigeefppfpaaW.PrintMore
set_option linter.unusedVariables false
set_option maxHeartbeats 8000000 in
set_option maxRecDepth 100000 in
theorem rauto_go (ev st : Int) (A : Option Addr) (c : Nat) (l : List (List Int)) (A1 A2 : Option Addr) (c1 c2 : Nat) (rk of : List Int) (w : World) (hr : Kd.C (Kd.slice 3 (Kd.int .i64)) w A l.length l) (hc : l.length ≤ c)
    (hr1 : Kd.C (Kd.int .i64) w A1 rk.length rk) (hc1 : rk.length ≤ c1) (hr2 : Kd.C (Kd.int .i64) w A2 of.length of) (hs : specOk ev st l = true) (ha : auArgs ev rk of = true) :
    Calls Try.prog 34 #[.agg #[.int .i64 ev, .int .i64 st, .slice A l.length c], .slice A1 rk.length c1, .slice A2 of.length c2] w (AuEnd (auErr ev st l rk of) (auRk ev st l rk of) (auM ev st l rk of) w) := by
  have H1 := Aside0.mk fun W (hW : Below w.heap.size w W) => ris_calls ev st A c l W (Kd.C_below hr hW) hc
  rw [hs] at H1
  unfold SameEnd at H1
  obtain ⟨hrk, hlen, hany, hof, hl24, hrr⟩ := auArgs_true ha
  have H2 := Aside0.mk fun W (hW : Below w.heap.size w W) => ranks6_calls A1 c1 rk W (Kd.C_below hr1 hW) hc1
  rw [hrk] at H2
  have HRK := Aside0.mk hr1
  have HOF := Aside0.mk hr2
  have HOR := Aside0.mk hof
  have HRR := Aside0.mk hrr
  have HLEN := Aside0.mk hlen
  obtain ⟨ht, hst, he0, he1, hl0, hl1⟩ := spec_table hs
  have HTAB := Aside0.mk (isLeast_ok (leastRows_is hs).1)
  have HE := Aside0.mk (show (6 < (leastRows ev st l).length → auErr ev st l rk of = 3 ∧ auRk ev st l rk of = [] ∧ auM ev st l rk of = []) ∧ (¬ 6 < (leastRows ev st l).length → auErr ev st l rk of = 0 ∧ auRk ev st l rk of = rk ∧ auM ev st l rk of = auMoves rk of (leastRows ev st l) (leastRows ev st l).length) from
    ⟨fun h => by simp [auErr, auRk, auM, hs, ha, h], fun h => by simp [auErr, auRk, auM, hs, ha, h]⟩)
  generalize auErr ev st l rk of = err at *
  generalize auRk ev st l rk of = rkE at *
  generalize auM ev st l rk of = mE at *
  obtain ⟨n, rfl⟩ : ∃ n : Nat, ev = (n : Int) := ⟨ev.toNat, by omega⟩
  rw [Int.toNat_natCast] at HTAB ht
  have H3 := Aside0.mk fun W (hW : Below w.heap.size w W) => rleast_calls n st A c l W (Kd.C_below hr hW) hc ht (by omega) hl0 (by omega) hst
  unfold RLeastEnd at H3
  rw [show rleastOf n l st = leastRows n st l from by unfold leastRows; rw [Int.toNat_natCast]] at H3
  generalize leastRows n st l = g at *
  have hm1 := hr1.2.1
  have hm2 := hr2.2.1
  clear hr hr1 hr2 hc1 hs ha hrk hany hof hrr ht hst hl0 hl1 he0 he1
  have d0 : ((of.length : Int) == (rk.length : Int)) = true := beq_iff_eq.2 (by omega)
  have d1 : ((of.length : Int) != (rk.length : Int)) = false := bne_eq_false_iff_eq.2 (by omega)
  clear hlen
  go_enter Try.func34, Try.ntmps34
  go_upto_region 1 with (fail)
  have HS := AB.start w #[.int .i64 n, .int .i64 st, .slice A l.length c]
  generalize ((w.alloc (.cells #[.int .i64 n, .int .i64 st, .slice A l.length c] 24)).alloc (.cells #[.slice none 0 0, .int .i64 0, .slice none 0 0] 44)) = w0 at *
  obtain ⟨hc0, hc1, hc2⟩ := box_cells HS.hs
  go_wp2_with fail
  refine (H1.out _ HS.hb).mono ?_
  rintro E w1 ⟨rfl, hb⟩
  have HS1 := HS.below hb
  clear hb HS hc0 hc1 hc2 H1
  go_wp2_with fail
  refine (H2.out _ HS1.hb).mono ?_
  rintro E w2 ⟨rfl, hb⟩
  have HS2 := Aside0.mk (HS1.below hb)
  clear hb HS1 H2
  go_wp2
  clear d0 d1
  go_loopg [37] of.length (fun gg v37 wi => ∃ f : Nat, f ≤ of.length ∧ of.length - f ≤ gg ∧ v37 = .int .i64 f ∧ Aside0 (AB w wi #[.int .i64 n, .int .i64 st, .slice A l.length c]))
  case atStart => exact ⟨0, by omega, by omega, rfl, HS2⟩
  case round =>
    clear HS2
    obtain ⟨f0, hfl, hgg, rfl, HS⟩ := hrel
    by_cases hft : f0 < of.length
    · have hfz : (f0 : Int) < (of.length : Int) := by omega
      obtain ⟨ado, e0, hxo⟩ := Kd.at_int (Kd.C_below HOF.out (HS.out).hb) (f0 : Int) (by omega) hfz
      cases e0
      rw [Int.toNat_natCast] at hxo
      obtain ⟨hc0, hc1, hc2⟩ := box_cells (HS.out).hs
      have hor := HOR.out f0 (by have := HLEN.out; omega)
      generalize rd of (f0 : Int) = e at *
      obtain ⟨hor1, hor2⟩ := hor
      have h1 : ¬ e < -1 := by omega
      have h3 : ¬ e ≥ (n : Int) := by omega
      have h2 : decide (e < -1) = false := by simpa using h1
      have h4 : decide (e ≥ (n : Int)) = false := by simpa using h3
      go_wp2
      go_roundg (of.length - (f0 + 1))
      case measure => omega
      case rel => exact ⟨f0 + 1, by omega, by omega, by go_num, HS⟩
    · have hfz : ¬ (f0 : Int) < (of.length : Int) := by omega
      clear hft
      obtain ⟨hc0, hc1, hc2⟩ := box_cells (HS.out).hs
      go_wp2_with fail
      refine (H3.out _ (HS.out).hb).mono ?_
      rintro E w4 ⟨ov, So, rfl, ho, hb⟩
      obtain ⟨Ag, cg, rfl⟩ := Kd.R_slice ho
      have HS4 := (HS.out).below hb
      go_upto_region 12 with (fail)
      have HX := Aside0.mk (BX.mk (lb := w4.heap.size) (gv := .slice Ag g.length cg) (g := g) (Sg := So) (HS4.below (below_alloc (Below.refl _ _) (.cells #[.int .i64 n, .int .i64 0, .slice Ag g.length cg] 24))) (blk_new w4 (.cells #[.int .i64 n, .int .i64 0, .slice Ag g.length cg] 24)) (Array.getElem?_eq_some_iff.1 HS4.hr).1 (Kd.R_below (Kd.R_lower ho ((HS.out).hb).size) (below_alloc (Below.refl _ _) (.cells #[.int .i64 n, .int .i64 0, .slice Ag g.length cg] 24))))
      clear ho hb hc0 hc1 hc2 HS HS4 H3
      generalize (w4.alloc (.cells #[.int .i64 n, .int .i64 0, .slice Ag g.length cg] 24)) = w5 at *
      generalize w4.heap.size = lb at *
      have hx2 : w5.cell? ⟨lb, 2, none⟩ = some (.slice Ag g.length cg) := (blk_cell (HX.out).hl 2).trans rfl
      by_cases h6 : 6 < g.length
      · have hz : (g.length : Int) > 6 := by omega
        obtain ⟨e1, e2, e3⟩ := (HE.out).1 h6
        subst e1; subst e2; subst e3
        clear HE h6
        obtain ⟨⟨hc0, hf0⟩, ⟨hc1, hf1⟩, hc2, hf2⟩ := (HX.out).hB.res
        go_wp2
        refine bodyPost_ret (results_row_tmp rfl _ _ (w.heap.size + 1) 44 #[.slice none 0 0, .int .i64 0, .slice none 0 0] (0, 0) _ rfl ((HX.out).hB.out _ _ _).1 Try.underlying44 rfl (by kernel_rfl)) rfl ?_
        exact AuEnd.err (HX.out).hB
      · have hz : ¬ (g.length : Int) > 6 := by omega
        obtain ⟨e1, e2, e3⟩ := (HE.out).2 h6
        have HEE := Aside0.mk (show err = 0 ∧ rkE = rk ∧ mE = auMoves rk of g g.length from ⟨e1, e2, e3⟩)
        clear e1 e2 e3
        have hg6 : g.length ≤ 6 := by omega
        clear HE h6
        go_upto_region 15 with (fail)
        clear hx2
        have HX2 := Aside0.mk ((HX.out).below (below_alloc (Below.refl _ _) (.cells #[.slice none 0 0, .int .i64 0, .slice none 0 0] 44)))
        have HO := Aside0.mk (blk_new w5 (.cells #[.slice none 0 0, .int .i64 0, .slice none 0 0] 44))
        have HLO := Aside0.mk (Array.getElem?_eq_some_iff.1 (HX.out).hl).1
        clear HX
        generalize (w5.alloc (.cells #[.slice none 0 0, .int .i64 0, .slice none 0 0] 44)) = w6 at *
        generalize w5.heap.size = ob at *
        have hz0 : w6.cell? ⟨ob, 0, none⟩ = some (.slice none 0 0) := (blk_cell HO.out 0).trans rfl
        have hl8 : (([] : List Int).length + rk.length) * 8 ≤ 140737488355328 := by simp; omega
        go_upto_region 16 with ((with_reducible refine gate_builtin (b := .append) (xs := #[.tmp 59, .tmp 60]) rfl ?_); refine Kd.R_append_rows (Kd.int .i64) (Rr := fun x cs => cs = [Value.int .i64 x]) (w0 := w) w.heap.size rfl (.tmp 59) (.tmp 60) 25 3 (.int .i64 0) 8 rfl Try.underlying25 info3 rfl (by decide) (by omega) (.slice none 0 0) [] rk A1 rk.length c1 (fun k => w6.heap.size ≤ k) (fun _ => False) rfl rfl (Kd.R_nil _ _ _ _ _) (Kd.C_below HRK.out (HX2.out).hB.hb) (fun _ _ h => h) (fun _ hk => hk.elim) (fun k hk => hk) (HX2.out).hB.hb ((HX2.out).hB.hb).size hl8 ?_; intro v7 w7 hr7 hb7 hg7 hat7; rw [List.nil_append] at hr7; (obtain ⟨A5, c5, rfl⟩ := Kd.R_slice hr7); have HR7 := Aside0.mk hr7; have HG7 := Aside0.mk (show w6.grownBy w7 none from hg7); have hz7 : w7.cell? ⟨ob, 0, none⟩ = some (.slice none 0 0) := (blk_cell (blk_below HO.out (below_none HG7.out)) 0).trans rfl; have hf7 : w7.frozen? ⟨ob, 0, none⟩ = false := blk_frozen (blk_below HO.out (below_none HG7.out)) 0; clear hr7 hb7 hg7 hat7)
        clear hz0 hz7 hf7
        have HAS := Aside0.mk ((HX2.out).start HO.out HLO.out HR7.out HG7.out)
        clear HX2 HO HLO HR7 HG7
        generalize hB1 : (w7.setCell ⟨ob, 0, none⟩ (.slice A5 rk.length c5)).heap.size = B1 at *
        clear hB1
        generalize (w7.setCell ⟨ob, 0, none⟩ (.slice A5 rk.length c5)) = w8 at *
        have hx2 : w8.cell? ⟨lb, 2, none⟩ = some (.slice Ag g.length cg) := (blk_cell ((HAS.out).hbs (lb, _) (List.mem_cons_of_mem _ List.mem_cons_self)).1 2).trans rfl
        go_wp2
        clear hx2
        go_loopg [66] g.length (fun gg v66 wi => ∃ (q : Nat) (bv : Value) (Sm : Nat → Prop), q ≤ g.length ∧ g.length - q ≤ gg ∧ v66 = .int .i64 q ∧
          Aside0 (AS w wi [(w.heap.size, #[.int .i64 n, .int .i64 st, .slice A l.length c]), (lb, #[.int .i64 n, .int .i64 0, .slice Ag g.length cg])] ob B1 (.slice A5 rk.length c5) (.slice Ag g.length cg) bv bv Sm rk g (auMoves rk of g q)))
        case atStart => exact ⟨0, _, _, by omega, by omega, rfl, HAS⟩
        case round =>
          clear HAS
          obtain ⟨q, bv, Sm, hqg, hgg, rfl, HAS⟩ := hrel
          by_cases hqt : q < g.length
          · have hqz : (q : Int) < (g.length : Int) := by omega
            have HTR := Aside0.mk (trow (HTAB.out).1 (show domS g q from ⟨by omega, by omega⟩))
            have HSC := Aside0.mk (auMoves_succ rk of g q)
            have HGY := Aside0.mk (show Q.rd_L1 g (q : Int) = Q.rd_L1 g (q : Int) from rfl)
            obtain ⟨y, hy⟩ : ∃ y, y = Q.rd_L1 g (q : Int) := ⟨_, rfl⟩
            rw [← hy] at HTR HSC
            have HY := Aside0.mk hy
            clear hy HGY
            have HYL := Aside0.mk (HTR.out).1
            have HYR := Aside0.mk (HTR.out).2
            clear HTR
            have HGO := Aside0.mk (show ∀ f : Nat, f < rk.length → auGo of y q f < (g.length : Int) from fun f hf => by
              unfold auGo
              split
              · rename_i h
                obtain ⟨e, he⟩ : ∃ e : Nat, rd of f = e := ⟨(rd of f).toNat, by omega⟩
                have h2 := HOR.out f hf
                rw [he] at h2 ⊢
                exact ((HYR.out) _ (rd_mem (k := e) (by have := HYL.out; omega))).2
              · omega)
            have HAL := Aside0.mk (AL.start HAS.out)
            clear HAS
            go_wp2
            go_loopg [13, 71] rk.length (fun gg2 v13 v71 wi => ∃ (f : Nat) (Sm Sw : Nat → Prop), f ≤ rk.length ∧ rk.length - f ≤ gg2 ∧ v71 = .int .i64 f ∧
              Aside0 (AL w wi [(w.heap.size, #[.int .i64 n, .int .i64 st, .slice A l.length c]), (lb, #[.int .i64 n, .int .i64 0, .slice Ag g.length cg])] ob B1 (.slice A5 rk.length c5) (.slice Ag g.length cg) bv bv rk g (auMoves rk of g q) (.slice A5 rk.length c5) rk v13 (.slice none 0 0) Sm Sw (fun _ => False) (auRow rk of y q f) []))
            case atStart => exact ⟨0, _, _, by omega, by omega, rfl, HAL⟩
            case round =>
              clear HAL Sm
              obtain ⟨f, Sm, Sw, hfl2, hg2, rfl, HAL⟩ := hrel
              obtain ⟨A13, c13, rfl⟩ := Kd.R_slice (HAL.out).hW
              by_cases hft : f < rk.length
              · have hfz2 : (f : Int) < (rk.length : Int) := by omega
                obtain ⟨adr, e0, hxr⟩ := Kd.at_int (Kd.C_below HRK.out (HAL.out).hA.hb) (f : Int) (by omega) hfz2
                cases e0
                obtain ⟨ado, e0, hxo⟩ := Kd.at_int (Kd.C_below HOF.out (HAL.out).hA.hb) (f : Int) (by omega) (by have := HLEN.out; omega)
                cases e0
                rw [Int.toNat_natCast] at hxr hxo
                have hfo : (f : Int) < (of.length : Int) := by have := HLEN.out; omega
                have HAF := Aside0.mk (show auAt rk of y q f = if auGo of y q f < 0 then [] else [needL (rd rk f) (auGo of y q f)] from rfl)
                have HRF := Aside0.mk (auRow_succ rk of y q f)
                have HRL := Aside0.mk (auRow_len rk of y q f)
                have hr4 := HRR.out f hft
                obtain ⟨r, hrn⟩ : ∃ r : Nat, rd rk (f : Int) = r := ⟨(rd rk f).toNat, by omega⟩
                rw [hrn] at hxr HAF hr4
                clear hrn
                have hor := HOR.out f hft
                have HGD := Aside0.mk (show auGo of y q f = if rd of f ≥ 0 then rd y (rd of f) else (q : Int) from rfl)
                have htt := HGO.out f hft
                generalize auGo of y q f = tt at *
                generalize rd of (f : Int) = e at *
                have HTT := Aside0.mk htt
                clear htt
                obtain ⟨hor1, hor2⟩ := hor
                generalize auRow rk of y q f = row at *
                go_upto_if 81 with (fail)
                go_cut [16] from 82 to 92 (fun s16 wx => s16 = .int .i64 tt ∧ Aside0 (AL w wx [(w.heap.size, #[.int .i64 n, .int .i64 st, .slice A l.length c]), (lb, #[.int .i64 n, .int .i64 0, .slice Ag g.length cg])] ob B1 (.slice A5 rk.length c5) (.slice Ag g.length cg) bv bv rk g (auMoves rk of g q) (.slice A5 rk.length c5) rk (.slice A13 row.length c13) (.slice none 0 0) Sm Sw (fun _ => False) row []))
                case first =>
                  by_cases he : e ≥ 0
                  · obtain ⟨en, rfl⟩ : ∃ en : Nat, e = (en : Int) := ⟨e.toNat, by omega⟩
                    have hey : (en : Int) < (y.length : Int) := by have := HYL.out; omega
                    obtain ⟨adg, Ay, cy, e0, hxy, hry⟩ := R_rowAt (HAL.out).hA.hg q hqt
                    subst e0
                    rw [← HY.out] at hxy hry
                    obtain ⟨ady, e0, hxe⟩ := Kd.at_int (Kd.R_reads' hry).2.2 (en : Int) (by omega) hey
                    subst e0
                    rw [if_pos he] at HGD
                    rw [← HGD.out, Int.toNat_natCast] at hxe
                    have hx2 : wr.cell? ⟨lb, 2, none⟩ = some (.slice (some adg) g.length cg) := (blk_cell ((HAL.out).hA.hbs (lb, _) (List.mem_cons_of_mem _ List.mem_cons_self)).1 2).trans rfl
                    clear hry
                    go_wp2
                    repeat (go_quiet (fail); try go_wp2)
                    go_meet
                    exact ⟨rfl, ⟨(HAL.out).below (pw_below_drewN (Below.refl _ _) _)⟩⟩
                  · rw [if_neg he] at HGD
                    go_wp2
                    go_meet
                    exact ⟨by rw [HGD.out], HAL⟩
                case rest =>
                  clear HAL hxr hxo
                  obtain ⟨rfl, HAL⟩ := hcut
                  generalize wc = w9 at *
                  have hlw : (row.length + 1) * 24 ≤ 140737488355328 := by have := HRL.out; omega
                  by_cases ht : tt < 0
                  · rw [if_pos ht] at HAF
                    have HT := Aside0.mk (HAL.out).noalt
                    clear HAL
                    go_wp2_with ((with_reducible refine gate_builtin (b := .append) (xs := #[.tmp 110, .tmp 112]) rfl ?_); at_builtin; refine Kd.R_append kA2 (w0 := w9) B1 rfl (.tmp 110) (.tmp 112) 75 79 (.slice none 0 0) 24 rfl Try.underlying75 info79 rfl (by decide) (by omega) (.slice A13 row.length c13) row [] [.slice none 0 0] (fun k => (Sw k ∨ (fun _ => False) k) ∨ w9.heap.size ≤ k) (fun _ => False) rfl rfl ⟨_, rfl, (HT.out).hT⟩ (fun k hk => hk.elim) (fun k hk => .inr hk) (Kd.R_mono (HT.out).hW (fun _ hk => .inl (.inl hk))) (below_base (Below.refl _ _) ((HT.out).hA.h1).2.2) ((HT.out).hA.h1).2.2 hlw ?_; intro v5 w5 ho5 hb5 hg5 hat5; have HP5 := Aside0.mk ((HT.out).appW ho5 hg5); clear ho5 hb5 hg5 hat5 HT)
                    go_roundg (rk.length - (f + 1))
                    case measure => omega
                    case rel =>
                      refine ⟨f + 1, fun k => Sm k ∧ k < w9.heap.size, fun k => (Sw k ∨ (fun _ => False) k) ∨ w9.heap.size ≤ k, by omega, by omega, by go_num, ?_⟩
                      rw [HRF.out, HAF.out]
                      exact HP5
                  · rw [if_neg ht] at HAF
                    go_wp2
                    go_loopg [18, 96] r (fun gg3 v18 v96 wi => ∃ (k : Nat) (Sm Sw Sl : Nat → Prop), k ≤ r ∧ r - k ≤ gg3 ∧ v96 = .int .i64 k ∧
                      Aside0 (AL w wi [(w.heap.size, #[.int .i64 n, .int .i64 st, .slice A l.length c]), (lb, #[.int .i64 n, .int .i64 0, .slice Ag g.length cg])] ob B1 (.slice A5 rk.length c5) (.slice Ag g.length cg) bv bv rk g (auMoves rk of g q) (.slice A5 rk.length c5) rk (.slice A13 row.length c13) v18 Sm Sw Sl row (needTo k tt)))
                    case atStart => exact ⟨0, _, _, _, by omega, by omega, rfl, HAL⟩
                    case round =>
                      clear HAL Sm Sw
                      obtain ⟨k, Sm, Sw, Sl, hkr, hg3, rfl, HAL⟩ := hrel
                      obtain ⟨A17, c17, rfl⟩ := Kd.R_slice (HAL.out).hL
                      by_cases hkt : k < r
                      · have hkz : (k : Int) < (r : Int) := by omega
                        have HNS := Aside0.mk (needTo_succ k tt)
                        have hnl := needTo_len k tt
                        generalize needTo k tt = lst at *
                        have hll : (lst.length + 1) * 16 ≤ 140737488355328 := by omega
                        clear hnl
                        go_wp2_with ((with_reducible refine gate_builtin (b := .append) (xs := #[.tmp 99, .tmp 103]) rfl ?_); at_builtin; refine Kd.R_append Q.k78 (w0 := wr) B1 rfl (.tmp 99) (.tmp 103) 76 78 (.agg #[.int .i64 0, .int .i64 0]) 16 rfl Try.underlying76 info78 rfl (by decide) (by omega) (.slice A17 lst.length c17) lst ⟨(k : Int), tt⟩ [.int .i64 (k : Int), .int .i64 tt] (fun k => Sl k ∨ wr.heap.size ≤ k) (fun _ => False) rfl rfl (Q.k78_mkM _ _ _ ⟨(k : Int), tt⟩) (fun _ hk => hk.elim) (fun k hk => .inr hk) (Kd.R_mono (HAL.out).hL (fun _ hk => .inl hk)) (below_base (Below.refl _ _) ((HAL.out).hA.h1).2.2) ((HAL.out).hA.h1).2.2 hll ?_; intro v5 w5 ho5 hb5 hg5 hat5; have HAL5 := Aside0.mk ((HAL.out).appL ho5 hg5); clear ho5 hb5 hg5 hat5 HAL)
                        go_roundg (r - (k + 1))
                        case measure => omega
                        case rel =>
                          refine ⟨k + 1, fun k => Sm k ∧ k < wr.heap.size, fun k => Sw k ∧ k < wr.heap.size, fun k => Sl k ∨ wr.heap.size ≤ k, by omega, by omega, by go_num, ?_⟩
                          rw [HNS.out]
                          exact HAL5
                      · have hkz : ¬ (k : Int) < (r : Int) := by omega
                        obtain rfl : k = r := by omega
                        have HNE := Aside0.mk (show auAt rk of y q f = [needTo k tt] from HAF.out)
                        have HNL := Aside0.mk (needTo_len k tt)
                        generalize needTo k tt = lst at *
                        have hl1 : (([] : List (List Q.S78)).length + 1) * 24 ≤ 140737488355328 := by decide
                        go_upto_region 35 with ((with_reducible refine gate_builtin (b := .append) (xs := #[.tmp 106, .tmp 108]) rfl ?_); at_builtin; refine Kd.R_append kA1 (w0 := wr) B1 rfl (.tmp 106) (.tmp 108) 79 76 (.slice none 0 0) 24 rfl Try.underlying79 info76 rfl (by decide) (by omega) (.slice none 0 0) [] lst [.slice A17 lst.length c17] (fun k => Sl k ∨ wr.heap.size ≤ k) Sl rfl rfl ⟨_, rfl, (HAL.out).hL⟩ (fun k hk => ⟨.inl hk, fun he => by cases he⟩) (fun k hk => .inr hk) (Kd.R_nil _ _ _ _ _) (below_base (Below.refl _ _) ((HAL.out).hA.h1).2.2) ((HAL.out).hA.h1).2.2 hl1 ?_; intro v5 w5 ho5 hb5 hg5 hat5; (obtain ⟨A7, c7, e7⟩ := Kd.R_slice ho5); (have e7 : v5 = .slice A7 1 c7 := e7); subst e7; have HT := Aside0.mk ((HAL.out).alt ho5 hg5); clear ho5 hb5 hg5 hat5 HAL)
                        go_wp2_with ((with_reducible refine gate_builtin (b := .append) (xs := #[.tmp 110, .tmp 112]) rfl ?_); at_builtin; refine Kd.R_append kA2 (w0 := w5) B1 rfl (.tmp 110) (.tmp 112) 75 79 (.slice none 0 0) 24 rfl Try.underlying75 info79 rfl (by decide) (by omega) (.slice A13 row.length c13) row ([] ++ [lst]) [.slice A7 1 c7] (fun k => ((fun k => Sw k ∧ k < wr.heap.size) k ∨ (fun k => Sl k ∨ wr.heap.size ≤ k) k) ∨ w5.heap.size ≤ k) (fun k => Sl k ∨ wr.heap.size ≤ k) rfl rfl ⟨_, rfl, (HT.out).hT⟩ (fun k hk => ⟨.inl (.inr hk), fun he => (HT.out).dwt k ((HT.out).hW.1 k he.symm) hk⟩) (fun k hk => .inr hk) (Kd.R_mono (HT.out).hW (fun _ hk => .inl (.inl hk))) (below_base (Below.refl _ _) ((HT.out).hA.h1).2.2) ((HT.out).hA.h1).2.2 hlw ?_; intro v6 w6 ho6 hb6 hg6 hat6; have HP6 := Aside0.mk ((HT.out).appW ho6 hg6); clear ho6 hb6 hg6 hat6 HT)
                        go_roundg (rk.length - (f + 1))
                        case measure => omega
                        case rel =>
                          refine ⟨f + 1, fun k => (Sm k ∧ k < wr.heap.size) ∧ k < w5.heap.size, fun k => ((Sw k ∧ k < wr.heap.size) ∨ (Sl k ∨ wr.heap.size ≤ k)) ∨ w5.heap.size ≤ k, by omega, by omega, by go_num, ?_⟩
                          rw [HRF.out, HNE.out]
                          exact HP6
              · have hfz2 : ¬ (f : Int) < (rk.length : Int) := by omega
                obtain rfl : f = rk.length := by omega
                have hml := auMoves_len rk of g q
                generalize auRow rk of y q rk.length = row at *
                generalize auMoves rk of g q = M at *
                obtain ⟨Am, cm, rfl⟩ := Kd.R_slice (HAL.out).hA.hM
                have hlo : (M.length + 1) * 24 ≤ 140737488355328 := by omega
                clear hml
                have hz2 : wr.cell? ⟨ob, 2, none⟩ = some (.slice Am M.length cm) := (blk_cell (HAL.out).hA.ho 2).trans rfl
                go_wp2_with ((with_reducible refine gate_builtin (b := .append) (xs := #[.tmp 116, .tmp 118]) rfl ?_); at_builtin; refine Kd.R_append kA3 (w0 := wr) B1 rfl (.tmp 116) (.tmp 118) 42 75 (.slice none 0 0) 24 rfl Try.underlying42 info75 rfl (by decide) (by omega) (.slice Am M.length cm) M row [.slice A13 row.length c13] (fun k => (Sm k ∨ Sw k) ∨ wr.heap.size ≤ k) Sw rfl rfl ⟨_, rfl, (HAL.out).hW⟩ (fun k hk => ⟨.inl (.inr hk), fun he => (HAL.out).dmw k ((HAL.out).hA.hM.1 k he.symm) hk⟩) (fun k hk => .inr hk) (Kd.R_mono (HAL.out).hA.hM (fun _ hk => .inl (.inl hk))) (below_base (Below.refl _ _) ((HAL.out).hA.h1).2.2) ((HAL.out).hA.h1).2.2 hlo ?_; intro v5 w5 ho5 hb5 hg5 hat5; have HP5 := Aside0.mk ((HAL.out).hA.appM ho5 hg5); clear ho5 hb5 hg5 hat5 HAL hz2; (obtain ⟨A6, c6, e6⟩ := Kd.R_slice (HP5.out).hM); rw [List.length_append, List.length_singleton] at e6; subst e6; have hcl : w5.cell? ⟨ob, 2, none⟩ = some (.slice Am M.length cm) := (blk_cell (HP5.out).ho 2).trans rfl; have hfz : w5.frozen? ⟨ob, 2, none⟩ = false := blk_frozen (HP5.out).ho 2)
                have HP6 := Aside0.mk ((HP5.out).put (.slice A6 (M.length + 1) c6))
                go_roundg (g.length - (q + 1))
                case measure => omega
                case rel =>
                  refine ⟨q + 1, .slice A6 (M.length + 1) c6, fun k => (Sm k ∨ Sw k) ∨ wr.heap.size ≤ k, by omega, by omega, by go_num, ?_⟩
                  rw [HSC.out]
                  exact HP6
          · have hqz : ¬ (q : Int) < (g.length : Int) := by omega
            obtain rfl : q = g.length := by omega
            obtain ⟨Am, cm, rfl⟩ := Kd.R_slice (HAS.out).hM
            have hz0 : wr.cell? ⟨ob, 0, none⟩ = some (.slice A5 rk.length c5) := (blk_cell (HAS.out).ho 0).trans rfl
            have hz1 : wr.cell? ⟨ob, 1, none⟩ = some (.int .i64 0) := (blk_cell (HAS.out).ho 1).trans rfl
            have hz2 : wr.cell? ⟨ob, 2, none⟩ = some (.slice Am (auMoves rk of g g.length).length cm) := (blk_cell (HAS.out).ho 2).trans rfl
            have hc0 : wr.cell? ⟨w.heap.size + 1, 0, none⟩ = some (.slice none 0 0) := (blk_cell (HAS.out).hr 0).trans rfl
            have hc1 : wr.cell? ⟨w.heap.size + 1, 1, none⟩ = some (.int .i64 0) := (blk_cell (HAS.out).hr 1).trans rfl
            have hc2 : wr.cell? ⟨w.heap.size + 1, 2, none⟩ = some (.slice none 0 0) := (blk_cell (HAS.out).hr 2).trans rfl
            have hf0 := blk_frozen (HAS.out).hr 0
            have hf1 := blk_frozen (HAS.out).hr 1
            have hf2 := blk_frozen (HAS.out).hr 2
            go_wp2
            refine bodyPost_ret (results_row_tmp rfl _ _ (w.heap.size + 1) 44 #[.slice A5 rk.length c5, .int .i64 0, .slice Am (auMoves rk of g g.length).length cm] (0, 0) _ rfl ((HAS.out).fin _ _ _).1 Try.underlying44 rfl (by kernel_rfl)) rfl ?_
            obtain ⟨e1, e2, e3⟩ := HEE.out
            rw [e1, e2, e3]
            exact ⟨A5, Am, c5, cm, _, _, rfl, ((HAS.out).fin _ _ _).2.1, ((HAS.out).fin _ _ _).2.2.1, ((HAS.out).fin _ _ _).2.2.2⟩
end Go.Proofs.Ytmphigeefppfpaa.H
namespace Go.Proofs.Ytmphigeefppfpaa.H
open Go.RowKit Go.Proofs.YtmphigeefppfpaaW.PrintWords Go.Proofs.YtmphigeefppfpaaW.PrintLast Go.Proofs.YtmphigeefppfpaaW.PrintMore
set_option linter.unusedVariables false
theorem rauto_calls (ev st : Int) (A : Option Addr) (c : Nat) (l : List (List Int)) (A1 A2 : Option Addr) (c1 c2 : Nat) (rk of : List Int) (w : World) (hr : Kd.C (Kd.slice 3 (Kd.int .i64)) w A l.length l) (hc : l.length ≤ c)
    (hr1 : Kd.C (Kd.int .i64) w A1 rk.length rk) (hc1 : rk.length ≤ c1) (hr2 : Kd.C (Kd.int .i64) w A2 of.length of) :
    Calls Try.prog 34 #[.agg #[.int .i64 ev, .int .i64 st, .slice A l.length c], .slice A1 rk.length c1, .slice A2 of.length c2] w (AuEnd (auErr ev st l rk of) (auRk ev st l rk of) (auM ev st l rk of) w) := by
  cases hs : specOk ev st l with
  | false =>
    have h := rauto_bad ev st A c l A1 A2 c1 c2 rk of w hr hc hr1 hc1 hr2 hs
    rwa [show auErr ev st l rk of = 11 from by simp [auErr, hs], show auRk ev st l rk of = [] from by simp [auRk, auErr, hs], show auM ev st l rk of = [] from by simp [auM, auErr, hs]]
  | true =>
    cases ha : auArgs ev rk of with
    | false =>
      have h := rauto_args ev st A c l A1 A2 c1 c2 rk of w hr hc hr1 hc1 hr2 hs ha
      rwa [show auErr ev st l rk of = 2 from by simp [auErr, hs, ha], show auRk ev st l rk of = [] from by simp [auRk, auErr, hs, ha], show auM ev st l rk of = [] from by simp [auM, auErr, hs, ha]]
    | true => exact rauto_go ev st A c l A1 A2 c1 c2 rk of w hr hc hr1 hc1 hr2 hs ha
theorem auOk_of {ev st : Int} {l : List (List Int)} {rk of : List Int} (h : auErr ev st l rk of = 0) : auRk ev st l rk of = rk ∧ auM ev st l rk of = auMoves rk of (leastRows ev st l) (leastRows ev st l).length ∧ AuOk (of := of) rk (leastRows ev st l) := by
  refine ⟨by rw [auRk, if_pos h], by rw [auM, if_pos h], ?_⟩
  unfold auErr at h
  cases hs : specOk ev st l with
  | false => rw [hs] at h; exact absurd h (by simp)
  | true =>
    cases ha : auArgs ev rk of with
    | false => rw [hs, ha] at h; exact absurd h (by simp)
    | true =>
      rw [hs, ha] at h
      simp only [if_true] at h
      by_cases h6 : 6 < (leastRows ev st l).length
      · rw [if_pos h6] at h; exact absurd h (by decide)
      · obtain ⟨hrk, hlen, hany, hof, hl24, hrr⟩ := auArgs_true ha
        obtain ⟨htab, hg1⟩ := isLeast_ok (leastRows_is hs).1
        obtain ⟨_, _, he0, _, _, _⟩ := spec_table hs
        refine ⟨hrk, ⟨hg1, by omega⟩, fun q f hq hf => ?_⟩
        have hr := trow htab (show domS (leastRows ev st l) (q : Int) from ⟨by omega, by omega⟩)
        unfold auGo
        split
        · rename_i h
          obtain ⟨e, he⟩ : ∃ e : Nat, rd of f = e := ⟨(rd of f).toNat, by omega⟩
          have h2 := hof f hf
          rw [he] at h2 ⊢
          exact (hr.2 _ (rd_mem (k := e) (by rw [hr.1]; omega))).2
        · omega
theorem auErr_not {ev st : Int} {l : List (List Int)} {rk of : List Int} (h : auErr ev st l rk of ≠ 0) : auRk ev st l rk of = [] ∧ auM ev st l rk of = [] := ⟨by rw [auRk, if_neg h], by rw [auM, if_neg h]⟩
theorem same9_calls {rk of : List Int} {g : List (List Int)} (h : AuOk (of := of) rk g) (A1 A2 A3 A4 : Option Addr) (c1 c2 c3 c4 : Nat) (w : World)
    (h1 : Kd.C (Kd.int .i64) w A1 rk.length rk) (hc1 : rk.length ≤ c1) (h2 : Kd.C kA3 w A2 (auMoves rk of g g.length).length (auMoves rk of g g.length)) (hc2 : (auMoves rk of g g.length).length ≤ c2)
    (h3 : Kd.C (Kd.int .i64) w A3 rk.length rk) (hc3 : rk.length ≤ c3) (h4 : Kd.C kA3 w A4 (auMoves rk of g g.length).length (auMoves rk of g g.length)) (hc4 : (auMoves rk of g g.length).length ≤ c4) :
    Calls Try.prog 35 #[.agg #[.slice A1 rk.length c1, .int .i64 0, .slice A2 (auMoves rk of g g.length).length c2], .agg #[.slice A3 rk.length c3, .int .i64 0, .slice A4 (auMoves rk of g g.length).length c4]] w fun e w' => e = .returned (.bool true) ∧ Below w.heap.size w w' := by
  obtain ⟨k, hk⟩ := (same9_ev h).rounds
  exact Q.virgationref09_Same.calls k A1 c1 rk 0 A2 c2 _ A3 c3 rk 0 A4 c4 _ true w h1 hc1 h2 hc2 h3 hc3 h4 hc4 hk
set_option maxHeartbeats 8000000 in
theorem specAuto_calls (ev st : Int) (A : Option Addr) (c : Nat) (l : List (List Int)) (A1 : Option Addr) (c1 : Nat) (rk : List Int) (A2 : Option Addr) (c2 : Nat) (of : List Int) (w : World) (hr : Kd.C (Kd.slice 3 (Kd.int .i64)) w A l.length l) (hc : l.length ≤ c)
    (hr1 : Kd.C (Kd.int .i64) w A1 rk.length rk) (hc1 : rk.length ≤ c1) (hr2 : Kd.C (Kd.int .i64) w A2 of.length of) (hc2 : of.length ≤ c2) :
    Calls Try.prog 11 #[.agg #[.int .i64 ev, .int .i64 st, .slice A l.length c], .slice A1 rk.length c1, .slice A2 of.length c2] w fun e w' => e = .returned (.bool true) ∧ Below w.heap.size w w' := by
  have H1 := Aside0.mk fun W (hW : Below w.heap.size w W) => sauto_calls ev st A c l A1 A2 c1 c2 rk of W (Kd.C_below hr hW) (Kd.C_below hr1 hW) hc1 (Kd.C_below hr2 hW)
  have H2 := Aside0.mk fun W (hW : Below w.heap.size w W) => rauto_calls ev st A c l A1 A2 c1 c2 rk of W (Kd.C_below hr hW) hc (Kd.C_below hr1 hW) hc1 (Kd.C_below hr2 hW)
  unfold AuEnd at H1 H2
  have hO := Aside0.mk (auOk_of (ev := ev) (st := st) (l := l) (rk := rk) (of := of))
  have hN := Aside0.mk (auErr_not (ev := ev) (st := st) (l := l) (rk := rk) (of := of))
  generalize auErr ev st l rk of = err at *
  generalize auRk ev st l rk of = rkE at *
  generalize auM ev st l rk of = mE at *
  generalize leastRows ev st l = g at *
  clear hr hr1 hr2 hc hc1 hc2
  have d0 : (err == err) = true := beq_self_eq_true _
  go_enter Try.func11, Try.ntmps11
  go_upto_region 1 with (fail)
  have HS := Aside0.mk (blk_new w (.cells #[.int .i64 ev, .int .i64 st, .slice A l.length c] 24))
  have HB := Aside0.mk (below_alloc (Below.refl w.heap.size w) (.cells #[.int .i64 ev, .int .i64 st, .slice A l.length c] 24))
  generalize (w.alloc (.cells #[.int .i64 ev, .int .i64 st, .slice A l.length c] 24)) = w0 at *
  obtain ⟨hc0, hc1, hc2⟩ := box_cells HS.out
  go_wp2_with fail
  refine (H1.out _ HB.out).mono ?_
  rintro E w1 ⟨B1, B2, b1, b2, S1, S2, rfl, hR1, hR2, hb⟩
  have hRR1 := Kd.R_reads' hR1
  have hRR2 := Kd.R_reads' hR2
  have HB1 := Aside0.mk (below_then HB.out (HB.out).size hb)
  have HS1 := Aside0.mk (blk_below HS.out hb)
  have HC1 := Aside0.mk hRR1
  have HC2 := Aside0.mk hRR2
  clear hb HB HS hc0 hc1 hc2 H1 hR1 hR2 hRR1 hRR2
  go_upto_region 2 with (fail)
  have hb := below_alloc (Below.refl w1.heap.size w1) (.cells #[.slice B1 rkE.length b1, .int .i64 0, .slice B2 mE.length b2] 44)
  have HB2 := Aside0.mk (below_then HB1.out (HB1.out).size hb)
  have HS2 := Aside0.mk (blk_below HS1.out hb)
  have HD1 := Aside0.mk (Kd.C_below (HC1.out).2.2 hb)
  have HD2 := Aside0.mk (Kd.C_below (HC2.out).2.2 hb)
  have HT2 := Aside0.mk (blk_new w1 (.cells #[.slice B1 rkE.length b1, .int .i64 0, .slice B2 mE.length b2] 44))
  have HL1 := Aside0.mk (HC1.out).2.1
  have HL2 := Aside0.mk (HC2.out).2.1
  clear hb HB1 HS1 HC1 HC2
  generalize (w1.alloc (.cells #[.slice B1 rkE.length b1, .int .i64 0, .slice B2 mE.length b2] 44)) = w2 at *
  generalize w1.heap.size = t7 at *
  obtain ⟨hc0, hc1, hc2⟩ := box_cells HS2.out
  go_wp2_with fail
  refine (H2.out _ (HB2.out)).mono ?_
  rintro E w3 ⟨B3, B4, b3, b4, S3, S4, rfl, hR3, hR4, hb⟩
  have hRR3 := Kd.R_reads' hR3
  have hRR4 := Kd.R_reads' hR4
  have HB3 := Aside0.mk (below_then HB2.out (HB2.out).size hb)
  have HE1 := Aside0.mk (Kd.C_below HD1.out hb)
  have HE2 := Aside0.mk (Kd.C_below HD2.out hb)
  have HT3 := Aside0.mk (blk_below HT2.out hb)
  have HC3 := Aside0.mk hRR3
  have HC4 := Aside0.mk hRR4
  clear hb HB2 HS2 HD1 HD2 HT2 hc0 hc1 hc2 H2 hR3 hR4 hRR3 hRR4
  go_upto_region 3 with (fail)
  have hb := below_alloc (Below.refl w3.heap.size w3) (.cells #[.slice B3 rkE.length b3, .int .i64 0, .slice B4 mE.length b4] 44)
  have HB4 := Aside0.mk (below_then HB3.out (HB3.out).size hb)
  have HD1 := Aside0.mk (Kd.C_below HE1.out hb)
  have HD2 := Aside0.mk (Kd.C_below HE2.out hb)
  have HD3 := Aside0.mk (Kd.C_below (HC3.out).2.2 hb)
  have HD4 := Aside0.mk (Kd.C_below (HC4.out).2.2 hb)
  have HT4 := Aside0.mk (blk_below HT3.out hb)
  have HT5 := Aside0.mk (blk_new w3 (.cells #[.slice B3 rkE.length b3, .int .i64 0, .slice B4 mE.length b4] 44))
  have HL3 := Aside0.mk (HC3.out).2.1
  have HL4 := Aside0.mk (HC4.out).2.1
  clear hb HB3 HE1 HE2 HC3 HC4 HT3
  generalize (w3.alloc (.cells #[.slice B3 rkE.length b3, .int .i64 0, .slice B4 mE.length b4] 44)) = w4 at *
  generalize w3.heap.size = t9 at *
  have hk0 : w4.cell? ⟨t7, 0, none⟩ = some (.slice B1 rkE.length b1) := (blk_cell HT4.out 0).trans rfl
  have hk1 : w4.cell? ⟨t7, 1, none⟩ = some (.int .i64 0) := (blk_cell HT4.out 1).trans rfl
  have hk2 : w4.cell? ⟨t7, 2, none⟩ = some (.slice B2 mE.length b2) := (blk_cell HT4.out 2).trans rfl
  have hk3 : w4.cell? ⟨t9, 0, none⟩ = some (.slice B3 rkE.length b3) := (blk_cell HT5.out 0).trans rfl
  have hk4 : w4.cell? ⟨t9, 1, none⟩ = some (.int .i64 0) := (blk_cell HT5.out 1).trans rfl
  have hk5 : w4.cell? ⟨t9, 2, none⟩ = some (.slice B4 mE.length b4) := (blk_cell HT5.out 2).trans rfl
  by_cases he : err = 0
  · obtain ⟨e1, e2, hok⟩ := hO.out he
    subst he; subst e1; subst e2
    have HSM := Aside0.mk (same9_calls hok B1 B2 B3 B4 b1 b2 b3 b4 w4 HD1.out HL1.out HD2.out HL2.out HD3.out HL3.out HD4.out HL4.out)
    clear hO hN hok HD1 HD2 HD3 HD4 HL1 HL2 HL3 HL4
    go_wp2_with fail
    refine (HSM.out).mono ?_
    rintro E w5 ⟨rfl, hb⟩
    have HB5 := Aside0.mk (below_then HB4.out (HB4.out).size hb)
    clear hb HB4 HSM hk0 hk1 hk2 hk3 hk4 hk5
    go_wp2_with fail
    refine (alive_calls _).mono ?_
    rintro E w9 ⟨rfl, hb⟩
    have HB9 := Aside0.mk (below_then HB5.out (HB5.out).size hb)
    go_wp2
    go_ret
    exact ⟨rfl, HB9.out⟩
  · obtain ⟨e1, e2⟩ := hN.out he
    subst e1; subst e2
    have d1 : (err == 0) = false := beq_eq_false_iff_ne.2 he
    have d2 : (err != 0) = true := bne_iff_ne.2 he
    clear hO hN HD1 HD2 HD3 HD4 HL1 HL2 HL3 HL4
    go_wp2_with fail
    refine (alive_calls _).mono ?_
    rintro E w9 ⟨rfl, hb⟩
    have HB9 := Aside0.mk (below_then HB4.out (HB4.out).size hb)
    go_wp2
    go_ret
    exact ⟨rfl, HB9.out⟩
end Go.Proofs.Ytmphigeefppfpaa.H
