/- What specOwn_calls needs, out of my texts, by a program (slim.py). -/
import Derived.Test.YtmphigeefppfpaaS51
namespace Go.Proofs.Ytmphigeefppfpaa.H
open Go.RowKit Go.Proofs.YtmphigeefppfpaaW.PrintWords Go.Proofs.YtmphigeefppfpaaW.PrintLast Go.Proofs.YtmphigeefppfpaaW.PrintMore
set_option linter.unusedVariables false
theorem auArgs_true {ev : Int} {rk of : List Int} (h : auArgs ev rk of = true) : ranksB rk = true ∧ of.length = rk.length ∧ of.any (auBad ev) = false ∧ (∀ f : Nat, f < rk.length → -1 ≤ rd of f ∧ rd of f < ev) ∧ rk.length ≤ 24 ∧ ∀ f : Nat, f < rk.length → 0 ≤ rd rk f ∧ rd rk f ≤ 4 := by
  simp only [auArgs, Bool.and_eq_true, decide_eq_true_eq, Bool.not_eq_true'] at h
  obtain ⟨⟨h1, h2⟩, h3⟩ := h
  refine ⟨h1, h2, h3, fun f hf => ?_, ?_⟩
  · have h4 := (List.any_eq_false.1 h3) (rd of f) (rd_mem (by omega))
    simp only [auBad, Bool.or_eq_true, decide_eq_true_eq, not_or] at h4
    omega
  · simp only [ranksB, Bool.and_eq_true, List.all_eq_true, decide_eq_true_eq] at h1
    refine ⟨by omega, fun f hf => ?_⟩
    exact h1.1 _ (rd_mem hf)
theorem auRow_succ (rk of steps : List Int) (q f : Nat) : auRow rk of steps q (f + 1) = auRow rk of steps q f ++ [auAt rk of steps q f] := by
  simp [auRow, List.range_succ]
theorem auMoves_succ (rk of : List Int) (g : List (List Int)) (q : Nat) : auMoves rk of g (q + 1) = auMoves rk of g q ++ [auRow rk of (Q.rd_L1 g q) q rk.length] := by
  simp [auMoves, List.range_succ]
def needTo (k : Nat) (tt : Int) : List Q.S78 := (List.range k).map fun (k : Nat) => ⟨(k : Int), tt⟩
theorem needTo_succ (k : Nat) (tt : Int) : needTo (k + 1) tt = needTo k tt ++ [⟨(k : Int), tt⟩] := by simp [needTo, List.range_succ]
theorem needTo_len (k : Nat) (tt : Int) : (needTo k tt).length = k := by simp [needTo]
theorem AS.fin {w W : World} {bs : List (Nat × Array Value)} {ob B1 : Nat} {rv gv mv bv : Value} {Sm : Nat → Prop} {rk : List Int} {g : List (List Int)} {M : List (List (List (List Q.S78)))} (h : AS w W bs ob B1 rv gv mv bv Sm rk g M) (a b c : Value) :
    (outW w W a b c).heap[w.heap.size + 1]? = some (.cells #[a, b, c] 44 (0, 0)) ∧ Kd.R (Kd.int .i64) 3 (outW w W a b c) w.heap.size (fun k => k < B1) rv rk ∧ Kd.R kA3 75 (outW w W a b c) w.heap.size Sm mv M ∧ Below w.heap.size w (outW w W a b c) := by
  have hg := put3_grown W (w.heap.size + 1) a b c
  obtain ⟨a1, a2, a3⟩ := h.h1
  exact ⟨blk_set (blk_set (blk_set h.hr 0 a) 1 b) 2 c, R_offrow h.hRk h.hr (by simp [Kd.int, Kd.scalar]) hg, R_offrow (Kd.R_lower h.hM (by omega)) h.hr (by simp [Kd.slice, Q.k78, Kd.iso, Kd.pair, Kd.int, Kd.scalar]) hg, pw_below_grown h.hb _ h.hb.size hg (fun k hk => by cases hk; omega)⟩
theorem below_base {B : Nat} {w W : World} (h : Below w.heap.size w W) (hB : B ≤ w.heap.size) : Below B w W := h.mono hB
set_option maxHeartbeats 8000000 in
set_option maxRecDepth 100000 in
theorem sauto_go (ev st : Int) (A : Option Addr) (c : Nat) (l : List (List Int)) (A1 A2 : Option Addr) (c1 c2 : Nat) (rk of : List Int) (w : World) (hr : Kd.C (Kd.slice 3 (Kd.int .i64)) w A l.length l)
    (hr1 : Kd.C (Kd.int .i64) w A1 rk.length rk) (hc1 : rk.length ≤ c1) (hr2 : Kd.C (Kd.int .i64) w A2 of.length of) (hs : specOk ev st l = true) (ha : auArgs ev rk of = true) :
    Calls Try.prog 33 #[.agg #[.int .i64 ev, .int .i64 st, .slice A l.length c], .slice A1 rk.length c1, .slice A2 of.length c2] w (AuEnd (auErr ev st l rk of) (auRk ev st l rk of) (auM ev st l rk of) w) := by
  have H1 := Aside0.mk fun W (hW : Below w.heap.size w W) => check_calls ev st A c l W (Kd.C_below hr hW)
  rw [show checkVal ev st l = 0 from by simp [checkVal, hs]] at H1
  obtain ⟨hrk, hlen, hany, hof, hl24, hrr⟩ := auArgs_true ha
  have H2 := Aside0.mk fun W (hW : Below w.heap.size w W) => ranks_calls A1 c1 rk W (Kd.C_below hr1 hW) hc1
  rw [hrk] at H2
  have HF := Aside0.mk fun W (hW : Below w.heap.size w W) (hn : W.cell? ⟨w.heap.size, 0, none⟩ = some (.int .i64 ev)) => containsFunc_calls A2 c2 of 56 #[.pointer (some ⟨w.heap.size, 0, none⟩)] (fun _ => True) _ W (Kd.C_below hr2 hW) (fun _ _ => trivial) (auto1_pred _ _ _ hn) (fun _ _ => rfl)
  rw [hany] at HF
  have HCL := Aside0.mk fun W (hW : Below w.heap.size w W) => clone_calls A1 c1 rk W (Kd.C_below hr1 hW) (by omega)
  unfold CloneEnd at HCL
  have HRK := Aside0.mk hr1
  have HOF := Aside0.mk hr2
  have HOR := Aside0.mk hof
  have HRR := Aside0.mk hrr
  have HLEN := Aside0.mk hlen
  have hmf := run_mkfun
  obtain ⟨ht, hst, he0, he1, hl0, hl1⟩ := spec_table hs
  obtain ⟨hg, hg0, hg1⟩ := reach_ok hs
  obtain ⟨k, hk, hmin⟩ := cls_stop hg hg0
  have hrows : leastOf ev.toNat (reachB ev st l).1 (clsTo (reachB ev st l).1 (k + 1)).1 = leastRows ev st l := ((leastRows_is hs).1.unique (least_is hg hg0 hk).1 (reach_lq hs).symm).symm
  have HTAB := Aside0.mk (isLeast_ok (leastRows_is hs).1)
  have H3 := Aside0.mk fun W (hW : Below w.heap.size w W) => reached_calls ev st A c l W (Kd.C_below hr hW) hs
  have H4 := Aside0.mk fun W A cg (hc : Kd.C (Kd.slice 3 (Kd.int .i64)) W A (reachB ev st l).1.length (reachB ev st l).1) => least_calls ev.toNat (reachB ev st l).1 A cg k 0 W hc (by omega) hg0 (by omega) hg hk hmin
  rw [show ((ev.toNat : Nat) : Int) = ev from by omega] at H4
  unfold ReachEnd at H3
  unfold LeastEnd at H4
  rw [hrows] at H4
  have HE := Aside0.mk (show (6 < (leastRows ev st l).length → auErr ev st l rk of = 3 ∧ auRk ev st l rk of = [] ∧ auM ev st l rk of = []) ∧ (¬ 6 < (leastRows ev st l).length → auErr ev st l rk of = 0 ∧ auRk ev st l rk of = rk ∧ auM ev st l rk of = auMoves rk of (leastRows ev st l) (leastRows ev st l).length) from
    ⟨fun h => by simp [auErr, auRk, auM, hs, ha, h], fun h => by simp [auErr, auRk, auM, hs, ha, h]⟩)
  generalize auErr ev st l rk of = err at *
  generalize auRk ev st l rk of = rkE at *
  generalize auM ev st l rk of = mE at *
  obtain ⟨n, rfl⟩ : ∃ n : Nat, ev = (n : Int) := ⟨ev.toNat, by omega⟩
  rw [Int.toNat_natCast] at HTAB
  generalize leastRows n st l = g at *
  generalize (reachB n st l).1 = rg at *
  have hm1 := hr1.2.1
  have hm2 := hr2.2.1
  clear hr hr1 hr2 hc1 hs ha hrk hany hof hrr ht hst hl0 hl1 hg hg0 hg1 hk hmin hrows he0 he1
  have d0 : ((of.length : Int) == (rk.length : Int)) = true := beq_iff_eq.2 (by omega)
  have d1 : ((of.length : Int) != (rk.length : Int)) = false := bne_eq_false_iff_eq.2 (by omega)
  clear hlen
  go_enter Try.func33, Try.ntmps33
  go_upto_region 1 with (fail)
  have HS := AB.start w #[.int .i64 n, .int .i64 st, .slice A l.length c]
  generalize ((w.alloc (.cells #[.int .i64 n, .int .i64 st, .slice A l.length c] 24)).alloc (.cells #[.slice none 0 0, .int .i64 0, .slice none 0 0] 44)) = w0 at *
  obtain ⟨hc0, hc1, hc2⟩ := box_cells HS.hs
  go_wp2_with fail
  refine (H1.out _ HS.hb).mono ?_
  rintro E w1 ⟨rfl, hb⟩
  have HS1 := HS.below hb
  clear hb HS hc0 hc1 hc2 H1
  go_wp2_with fail
  refine (H2.out _ HS1.hb).mono ?_
  rintro E w2 ⟨rfl, hb⟩
  have HS2 := HS1.below hb
  clear hb HS1 H2
  go_wp2_with fail
  refine (HF.out _ HS2.hb (box_cells HS2.hs).1).mono ?_
  rintro E w3 ⟨rfl, hb⟩
  have HS3 := HS2.below hb
  clear hb HS2 HF d0 d1
  go_upto_region 6 with (fail)
  go_cut [9] from 41 to 45 (fun s9 wx => ∃ (Ag : Option Addr) (cg : Nat) (Sg : Nat → Prop), s9 = .slice Ag g.length cg ∧ Aside0 (AB w wx #[.int .i64 n, .int .i64 st, .slice A l.length c]) ∧ Aside0 (Kd.R (Kd.slice 3 (Kd.int .i64)) 25 wx w.heap.size Sg (.slice Ag g.length cg) g))
  case first =>
    have HS := HS3.below (W1 := w3.drew) (below_drew (Below.refl _ _))
    clear HS3
    go_region_held3 (fun w' => w'.cell? ⟨w.heap.size, 0, none⟩ = some (.int .i64 n) ∧ w'.cell? ⟨w.heap.size, 1, none⟩ = some (.int .i64 st) ∧ w'.cell? ⟨w.heap.size, 2, none⟩ = some (.slice A l.length c))
      (first | exact box_cells (AB.hs (by assumption)) | fail) (first
      | (go_at_call 49; refine (H3.out _ HS.hb).mono ?_; rintro E w4 ⟨ov, So, rfl, ho, hb⟩; (obtain ⟨Ag, cg, rfl⟩ := Kd.R_slice ho); have HO := Aside0.mk (Kd.R_reads' ho); have HS1 := HS.below hb; clear HS hb ho)
      | (go_at_call 48; refine (H4.out _ _ _ (HO.out).2.2).mono ?_; rintro E w5 ⟨ov2, So2, rfl, ho2, hb2⟩; have HB1 := Aside0.mk HS1.hb.size; (obtain ⟨A3, c3, rfl⟩ := Kd.R_slice ho2); have HO2 := Aside0.mk ho2; have HS2 := HS1.below hb2; clear HS1 hb2 ho2)
      | fail)
    all_goals
      go_wp2_with fail
      go_meet
      exact ⟨A3, c3, So2, rfl, ⟨HS2⟩, ⟨Kd.R_lower HO2.out HB1.out⟩⟩
  case rest =>
    clear HS3 H3 H4
    obtain ⟨Ag, cg, Sg, rfl, HS, HG⟩ := hcut
    generalize wc = w4 at *
    by_cases h6 : 6 < g.length
    · have hz : (g.length : Int) > 6 := by omega
      obtain ⟨e1, e2, e3⟩ := (HE.out).1 h6
      subst e1; subst e2; subst e3
      clear HE h6
      obtain ⟨⟨hc0, hf0⟩, ⟨hc1, hf1⟩, hc2, hf2⟩ := (HS.out).res
      go_wp2
      refine bodyPost_ret (results_row_tmp rfl _ _ (w.heap.size + 1) 44 #[.slice none 0 0, .int .i64 0, .slice none 0 0] (0, 0) _ rfl ((HS.out).out _ _ _).1 Try.underlying44 rfl (by kernel_rfl)) rfl ?_
      exact AuEnd.err HS.out
    · have hz : ¬ (g.length : Int) > 6 := by omega
      obtain ⟨e1, e2, e3⟩ := (HE.out).2 h6
      have HEE := Aside0.mk (show err = 0 ∧ rkE = rk ∧ mE = auMoves rk of g g.length from ⟨e1, e2, e3⟩)
      clear e1 e2 e3
      have hg6 : g.length ≤ 6 := by omega
      clear HE h6
      go_wp2_with fail
      refine (HCL.out _ (HS.out).hb).mono ?_
      rintro E w5 ⟨v5, S5, rfl, hr5, hb5⟩
      obtain ⟨A5, c5, rfl⟩ := Kd.R_slice hr5
      have HS5 := Aside0.mk ((HS.out).below hb5)
      have HG5 := Aside0.mk (Kd.R_below HG.out hb5)
      have HR5 := Aside0.mk (Kd.R_lower hr5 ((HS.out).hb).size)
      clear hr5 hb5 HS HG HCL
      go_upto_region 10 with (fail)
      have hb6 := below_alloc (Below.refl w5.heap.size w5) (.cells #[.slice A5 rk.length c5, .int .i64 0, .slice none 0 0] 44)
      have HAS := Aside0.mk (AS.mk (w := w) (W := w5.alloc (.cells #[.slice A5 rk.length c5, .int .i64 0, .slice none 0 0] 44)) (bs := [(w.heap.size, #[.int .i64 n, .int .i64 st, .slice A l.length c])]) (ob := w5.heap.size) (B1 := (w5.alloc (.cells #[.slice A5 rk.length c5, .int .i64 0, .slice none 0 0] 44)).heap.size) (rv := .slice A5 rk.length c5) (gv := .slice Ag g.length cg) (mv := .slice none 0 0) (bv := .slice none 0 0) (Sm := fun _ => False) (rk := rk) (g := g) (M := [])
        ((HS5.out).below hb6).hb (fun p hp => by
          rw [List.mem_singleton.1 hp]
          have := (Array.getElem?_eq_some_iff.1 (HS5.out).hs).1
          have h2 := (Array.getElem?_eq_some_iff.1 (HS5.out).hr).1
          exact ⟨((HS5.out).below hb6).hs, by simp; omega, by show w.heap.size ≠ w5.heap.size; omega⟩) ((HS5.out).below hb6).hr (blk_new _ _)
        ⟨(Array.getElem?_eq_some_iff.1 (HS5.out).hr).1, by simp, Nat.le_refl _⟩ (Kd.R_mono (Kd.R_bound (Kd.R_below (HR5.out) hb6)) (fun k hk => hk.2.2.1)) (Kd.R_mono (Kd.R_bound (Kd.R_below (HG5.out) hb6)) (fun k hk => hk.2.2.1)) (Kd.R_nil _ _ _ _ _))
      clear hb6 HS5 HG5 HR5
      generalize hB1 : (w5.alloc (.cells #[.slice A5 rk.length c5, .int .i64 0, .slice none 0 0] 44)).heap.size = B1 at *
      clear hB1
      generalize (w5.alloc (.cells #[.slice A5 rk.length c5, .int .i64 0, .slice none 0 0] 44)) = w6 at *
      generalize w5.heap.size = ob at *
      go_wp2
      go_loopg [55] g.length (fun gg v55 wi => ∃ (q : Nat) (bv : Value) (Sm : Nat → Prop), q ≤ g.length ∧ g.length - q ≤ gg ∧ v55 = .int .i64 q ∧
        Aside0 (AS w wi [(w.heap.size, #[.int .i64 n, .int .i64 st, .slice A l.length c])] ob B1 (.slice A5 rk.length c5) (.slice Ag g.length cg) bv bv Sm rk g (auMoves rk of g q)))
      case atStart => exact ⟨0, _, _, by omega, by omega, rfl, HAS⟩
      case round =>
        clear HAS
        obtain ⟨q, bv, Sm, hqg, hgg, rfl, HAS⟩ := hrel
        by_cases hqt : q < g.length
        · have hqz : (q : Int) < (g.length : Int) := by omega
          obtain ⟨adg, Ay, cy, e0, hxy, hry⟩ := R_rowAt (HAS.out).hg q hqt
          cases e0
          have HLY := Aside0.mk hry
          clear hry
          have HTR := Aside0.mk (trow (HTAB.out).1 (show domS g q from ⟨by omega, by omega⟩))
          have HSC := Aside0.mk (auMoves_succ rk of g q)
          generalize Q.rd_L1 g (q : Int) = y at *
          go_upto_region 14 with ((with_reducible refine gate_dst (N := 62) rfl ?_); refine Kd.R_make kA2 B1 79 rfl (N := 62) rfl 75 _ _ rfl (rk.length : Int) rfl rfl Try.underlying75 (.slice none 0 0) 24 info79 rfl (by decide) (by omega) [] (ok := fun k => wr.heap.size ≤ k) (okp := fun _ => False) ⟨_, rfl, Kd.R_nil _ _ _ _ _⟩ (fun _ hk => hk.elim) (Nat.le_refl _) (by omega) (by omega) (w0 := wr) (below_base (Below.refl _ _) ((HAS.out).h1).2.2) ((HAS.out).h1).2.2 ?_; intro v7 w7 hr7 hb7 hg7 hnew7)
          rw [Int.toNat_natCast] at hr7
          obtain ⟨wb, hwb, _⟩ := hnew7
          obtain ⟨cw, hv7⟩ := R_formB hr7 hwb
          rw [List.length_replicate] at hv7
          subst hv7
          have HAL := Aside0.mk (AL.mk (lv := .slice none 0 0) (lst := []) (Sl := fun _ => False) ((HAS.out).bound.grown hg7 (fun k hk => by cases hk)) hr7 (Kd.R_nil _ _ _ _ _) (R_low HLY.out hg7 (fun k hk => by cases hk)) (fun k ha hb => Nat.lt_irrefl _ (Nat.lt_of_lt_of_le ha.2 hb)) (fun _ _ h => h) (fun _ _ h => h))
          clear hr7 hb7 hg7 hwb HAS hxy
          have HYL := Aside0.mk (HTR.out).1
          have HYR := Aside0.mk (HTR.out).2
          clear HTR
          have HGO := Aside0.mk (show ∀ f : Nat, f < rk.length → auGo of y q f < (g.length : Int) from fun f hf => by
            unfold auGo
            split
            · rename_i h
              obtain ⟨e, he⟩ : ∃ e : Nat, rd of f = e := ⟨(rd of f).toNat, by omega⟩
              have h2 := HOR.out f hf
              rw [he] at h2 ⊢
              exact ((HYR.out) _ (rd_mem (k := e) (by have := HYL.out; omega))).2
            · omega)
          go_wp2
          go_loopg [65] rk.length (fun gg2 v65 wi => ∃ (f : Nat) (Sm Sw : Nat → Prop), f ≤ rk.length ∧ rk.length - f ≤ gg2 ∧ v65 = .int .i64 f ∧
            Aside0 (AL w wi [(w.heap.size, #[.int .i64 n, .int .i64 st, .slice A l.length c])] ob B1 (.slice A5 rk.length c5) (.slice (some adg) g.length cg) bv bv rk g (auMoves rk of g q) (.slice Ay y.length cy) y (.slice (some ⟨wb, 0, none⟩) rk.length cw) (.slice none 0 0) Sm Sw (fun _ => False) (auRow rk of y q f ++ List.replicate (rk.length - f) []) []))
          case atStart => exact ⟨0, _, _, by omega, by omega, rfl, HAL⟩
          case round =>
            clear HAL Sm
            obtain ⟨f, Sm, Sw, hfl, hg2, rfl, HAL⟩ := hrel
            by_cases hft : f < rk.length
            · have hfz : (f : Int) < (rk.length : Int) := by omega
              obtain ⟨adr, e0, hxr⟩ := Kd.at_int (Kd.C_below HRK.out (HAL.out).hA.hb) (f : Int) (by omega) hfz
              cases e0
              obtain ⟨ado, e0, hxo⟩ := Kd.at_int (Kd.C_below HOF.out (HAL.out).hA.hb) (f : Int) (by omega) (by have := HLEN.out; omega)
              cases e0
              rw [Int.toNat_natCast] at hxr hxo
              have hfo : (f : Int) < (of.length : Int) := by have := HLEN.out; omega
              have HAF := Aside0.mk (show auAt rk of y q f = if auGo of y q f < 0 then [] else [needL (rd rk f) (auGo of y q f)] from rfl)
              have HRF := Aside0.mk (auRow_succ rk of y q f)
              have HRL := Aside0.mk (auRow_len rk of y q f)
              have hr4 := HRR.out f hft
              obtain ⟨r, hrn⟩ : ∃ r : Nat, rd rk (f : Int) = r := ⟨(rd rk f).toNat, by omega⟩
              rw [hrn] at hxr HAF hr4
              clear hrn
              have hor := HOR.out f hft
              have HGD := Aside0.mk (show auGo of y q f = if rd of f ≥ 0 then rd y (rd of f) else (q : Int) from rfl)
              have htt := HGO.out f hft
              generalize auGo of y q f = tt at *
              generalize rd of (f : Int) = e at *
              have HTT := Aside0.mk htt
              clear htt
              obtain ⟨hor1, hor2⟩ := hor
              go_upto_if 75 with (fail)
              go_cut [16] from 76 to 82 (fun s16 wx => s16 = .int .i64 tt ∧ wr = wx)
              case first =>
                by_cases he : e ≥ 0
                · obtain ⟨en, rfl⟩ : ∃ en : Nat, e = (en : Int) := ⟨e.toNat, by omega⟩
                  have hey : (en : Int) < (y.length : Int) := by have := HYL.out; omega
                  obtain ⟨ady, e0, hxy⟩ := Kd.at_int (Kd.R_reads' (HAL.out).hY).2.2 (en : Int) (by omega) hey
                  cases e0
                  rw [if_pos he] at HGD
                  rw [← HGD.out, Int.toNat_natCast] at hxy
                  go_wp2
                  go_meet
                  exact ⟨rfl, rfl⟩
                · rw [if_neg he] at HGD
                  go_wp2
                  go_meet
                  exact ⟨by rw [HGD.out], rfl⟩
              case rest =>
                obtain ⟨rfl, rfl⟩ := hcut
                clear hxr hxo
                by_cases ht : tt < 0
                · rw [if_pos ht] at HAF
                  go_wp2
                  go_roundg (rk.length - (f + 1))
                  case measure => omega
                  case rel =>
                    refine ⟨f + 1, Sm, Sw, by omega, by omega, by go_num, ?_⟩
                    rw [HRF.out, HAF.out]
                    have e : (auRow rk of y q f ++ List.replicate (rk.length - f) []) = (auRow rk of y q f ++ [[]]) ++ List.replicate (rk.length - (f + 1)) [] := by
                      rw [show rk.length - f = (rk.length - (f + 1)) + 1 from by omega, List.replicate_succ, List.append_assoc]; rfl
                    rw [← e]
                    exact HAL
                · rw [if_neg ht] at HAF
                  go_upto_region 22 with (fail)
                  have HAL1 := Aside0.mk (HAL.out).lit
                  clear HAL
                  go_wp2
                  go_loopg [17, 87] r (fun gg3 v17 v87 wi => ∃ (k : Nat) (Sm Sw Sl : Nat → Prop), k ≤ r ∧ r - k ≤ gg3 ∧ v87 = .int .i64 k ∧
                    Aside0 (AL w wi [(w.heap.size, #[.int .i64 n, .int .i64 st, .slice A l.length c])] ob B1 (.slice A5 rk.length c5) (.slice (some adg) g.length cg) bv bv rk g (auMoves rk of g q) (.slice Ay y.length cy) y (.slice (some ⟨wb, 0, none⟩) rk.length cw) v17 Sm Sw Sl (auRow rk of y q f ++ List.replicate (rk.length - f) []) (needTo k tt)))
                  case atStart => exact ⟨0, _, _, _, by omega, by omega, rfl, HAL1⟩
                  case round =>
                    clear HAL1 Sm Sw
                    obtain ⟨k, Sm, Sw, Sl, hkr, hg3, rfl, HAL⟩ := hrel
                    obtain ⟨A17, c17, rfl⟩ := Kd.R_slice (HAL.out).hL
                    by_cases hkt : k < r
                    · have hkz : (k : Int) < (r : Int) := by omega
                      have HNS := Aside0.mk (needTo_succ k tt)
                      have hnl := needTo_len k tt
                      generalize needTo k tt = lst at *
                      have hll : (lst.length + 1) * 16 ≤ 140737488355328 := by omega
                      clear hnl
                      go_wp2_with ((with_reducible refine gate_builtin (b := .append) (xs := #[.tmp 90, .tmp 94]) rfl ?_); at_builtin; refine Kd.R_append Q.k78 (w0 := wr) B1 rfl (.tmp 90) (.tmp 94) 76 78 (.agg #[.int .i64 0, .int .i64 0]) 16 rfl Try.underlying76 info78 rfl (by decide) (by omega) (.slice A17 lst.length c17) lst ⟨(k : Int), tt⟩ [.int .i64 (k : Int), .int .i64 tt] (fun k => Sl k ∨ wr.heap.size ≤ k) (fun _ => False) rfl rfl (Q.k78_mkM _ _ _ ⟨(k : Int), tt⟩) (fun _ hk => hk.elim) (fun k hk => .inr hk) (Kd.R_mono (HAL.out).hL (fun _ hk => .inl hk)) (below_base (Below.refl _ _) ((HAL.out).hA.h1).2.2) ((HAL.out).hA.h1).2.2 hll ?_; intro v5 w5 ho5 hb5 hg5 hat5; have HAL5 := Aside0.mk ((HAL.out).appL ho5 hg5); clear ho5 hb5 hg5 hat5 HAL)
                      go_roundg (r - (k + 1))
                      case measure => omega
                      case rel =>
                        refine ⟨k + 1, fun k => Sm k ∧ k < wr.heap.size, fun k => Sw k ∧ k < wr.heap.size, fun k => Sl k ∨ wr.heap.size ≤ k, by omega, by omega, by go_num, ?_⟩
                        rw [HNS.out]
                        exact HAL5
                    · have hkz : ¬ (k : Int) < (r : Int) := by omega
                      obtain rfl : k = r := by omega
                      have HNE := Aside0.mk (show auAt rk of y q f = [needTo k tt] from HAF.out)
                      have HNL := Aside0.mk (needTo_len k tt)
                      generalize needTo k tt = lst at *
                      have HST := Aside0.mk ((HAL.out).store f hft)
                      obtain ⟨u, hcu, hfu, hsu⟩ := R_cell1 (Kd.R_below (HAL.out).hW (below_alloc (Below.refl wr.heap.size wr) (.cells #[.slice A17 lst.length c17] 76))) f hft
                      clear HAL
                      go_wp2
                      clear hcu hfu hsu
                      go_roundg (rk.length - (f + 1))
                      case measure => omega
                      case rel =>
                        refine ⟨f + 1, fun k => Sm k ∧ k < wr.heap.size, fun k => (Sw k ∨ Sl k) ∨ k = wr.heap.size, by omega, by omega, by go_num, ?_⟩
                        rw [HRF.out, HNE.out, ← set_row HRL.out hft]
                        exact HST
            · have hfz : ¬ (f : Int) < (rk.length : Int) := by omega
              obtain rfl : f = rk.length := by omega
              rw [Nat.sub_self, List.replicate_zero, List.append_nil] at HAL
              have hml := auMoves_len rk of g q
              generalize auRow rk of y q rk.length = row at *
              generalize auMoves rk of g q = M at *
              obtain ⟨Am, cm, rfl⟩ := Kd.R_slice (HAL.out).hA.hM
              have hlo : (M.length + 1) * 24 ≤ 140737488355328 := by omega
              clear hml
              have hz2 : wr.cell? ⟨ob, 2, none⟩ = some (.slice Am M.length cm) := (blk_cell (HAL.out).hA.ho 2).trans rfl
              go_wp2_with ((with_reducible refine gate_builtin (b := .append) (xs := #[.tmp 104, .tmp 106]) rfl ?_); at_builtin; refine Kd.R_append kA3 (w0 := wr) B1 rfl (.tmp 104) (.tmp 106) 42 75 (.slice none 0 0) 24 rfl Try.underlying42 info75 rfl (by decide) (by omega) (.slice Am M.length cm) M row [.slice (some ⟨wb, 0, none⟩) rk.length cw] (fun k => (Sm k ∨ Sw k) ∨ wr.heap.size ≤ k) Sw rfl rfl ⟨_, rfl, (HAL.out).hW⟩ (fun k hk => ⟨.inl (.inr hk), fun he => (HAL.out).dmw k ((HAL.out).hA.hM.1 k he.symm) hk⟩) (fun k hk => .inr hk) (Kd.R_mono (HAL.out).hA.hM (fun _ hk => .inl (.inl hk))) (below_base (Below.refl _ _) ((HAL.out).hA.h1).2.2) ((HAL.out).hA.h1).2.2 hlo ?_; intro v5 w5 ho5 hb5 hg5 hat5; have HP5 := Aside0.mk ((HAL.out).hA.appM ho5 hg5); clear ho5 hb5 hg5 hat5 HAL hz2; (obtain ⟨A6, c6, e6⟩ := Kd.R_slice (HP5.out).hM); rw [List.length_append, List.length_singleton] at e6; subst e6; have hcl : w5.cell? ⟨ob, 2, none⟩ = some (.slice Am M.length cm) := (blk_cell (HP5.out).ho 2).trans rfl; have hfz : w5.frozen? ⟨ob, 2, none⟩ = false := blk_frozen (HP5.out).ho 2)
              have HP6 := Aside0.mk ((HP5.out).put (.slice A6 (M.length + 1) c6))
              go_roundg (g.length - (q + 1))
              case measure => omega
              case rel =>
                refine ⟨q + 1, .slice A6 (M.length + 1) c6, fun k => (Sm k ∨ Sw k) ∨ wr.heap.size ≤ k, by omega, by omega, by go_num, ?_⟩
                rw [HSC.out]
                exact HP6
        · have hqz : ¬ (q : Int) < (g.length : Int) := by omega
          obtain rfl : q = g.length := by omega
          obtain ⟨Am, cm, rfl⟩ := Kd.R_slice (HAS.out).hM
          have hz0 : wr.cell? ⟨ob, 0, none⟩ = some (.slice A5 rk.length c5) := (blk_cell (HAS.out).ho 0).trans rfl
          have hz1 : wr.cell? ⟨ob, 1, none⟩ = some (.int .i64 0) := (blk_cell (HAS.out).ho 1).trans rfl
          have hz2 : wr.cell? ⟨ob, 2, none⟩ = some (.slice Am (auMoves rk of g g.length).length cm) := (blk_cell (HAS.out).ho 2).trans rfl
          have hc0 : wr.cell? ⟨w.heap.size + 1, 0, none⟩ = some (.slice none 0 0) := (blk_cell (HAS.out).hr 0).trans rfl
          have hc1 : wr.cell? ⟨w.heap.size + 1, 1, none⟩ = some (.int .i64 0) := (blk_cell (HAS.out).hr 1).trans rfl
          have hc2 : wr.cell? ⟨w.heap.size + 1, 2, none⟩ = some (.slice none 0 0) := (blk_cell (HAS.out).hr 2).trans rfl
          have hf0 := blk_frozen (HAS.out).hr 0
          have hf1 := blk_frozen (HAS.out).hr 1
          have hf2 := blk_frozen (HAS.out).hr 2
          go_wp2
          refine bodyPost_ret (results_row_tmp rfl _ _ (w.heap.size + 1) 44 #[.slice A5 rk.length c5, .int .i64 0, .slice Am (auMoves rk of g g.length).length cm] (0, 0) _ rfl ((HAS.out).fin _ _ _).1 Try.underlying44 rfl (by kernel_rfl)) rfl ?_
          obtain ⟨e1, e2, e3⟩ := HEE.out
          rw [e1, e2, e3]
          exact ⟨A5, Am, c5, cm, _, _, rfl, ((HAS.out).fin _ _ _).2.1, ((HAS.out).fin _ _ _).2.2.1, ((HAS.out).fin _ _ _).2.2.2⟩
end Go.Proofs.Ytmphigeefppfpaa.H
namespace Go.Proofs.Ytmphigeefppfpaa.H
open Go.RowKit Go.Proofs.YtmphigeefppfpaaW.PrintWords Go.Proofs.YtmphigeefppfpaaW.PrintLast Go.Proofs.YtmphigeefppfpaaW.PrintMore
set_option linter.unusedVariables false
theorem sauto_calls (ev st : Int) (A : Option Addr) (c : Nat) (l : List (List Int)) (A1 A2 : Option Addr) (c1 c2 : Nat) (rk of : List Int) (w : World) (hr : Kd.C (Kd.slice 3 (Kd.int .i64)) w A l.length l)
    (hr1 : Kd.C (Kd.int .i64) w A1 rk.length rk) (hc1 : rk.length ≤ c1) (hr2 : Kd.C (Kd.int .i64) w A2 of.length of) :
    Calls Try.prog 33 #[.agg #[.int .i64 ev, .int .i64 st, .slice A l.length c], .slice A1 rk.length c1, .slice A2 of.length c2] w (AuEnd (auErr ev st l rk of) (auRk ev st l rk of) (auM ev st l rk of) w) := by
  cases hs : specOk ev st l with
  | false =>
    have h := sauto_bad ev st A c l A1 A2 c1 c2 rk of w hr hr1 hc1 hr2 hs
    rwa [show auErr ev st l rk of = 11 from by simp [auErr, hs], show auRk ev st l rk of = [] from by simp [auRk, auErr, hs], show auM ev st l rk of = [] from by simp [auM, auErr, hs]]
  | true =>
    cases ha : auArgs ev rk of with
    | false =>
      have h := sauto_args ev st A c l A1 A2 c1 c2 rk of w hr hr1 hc1 hr2 hs ha
      rwa [show auErr ev st l rk of = 2 from by simp [auErr, hs, ha], show auRk ev st l rk of = [] from by simp [auRk, auErr, hs, ha], show auM ev st l rk of = [] from by simp [auM, auErr, hs, ha]]
    | true => exact sauto_go ev st A c l A1 A2 c1 c2 rk of w hr hr1 hc1 hr2 hs ha
section
variable {w W W1 W5 W6 : World} {va vb : Array Value} {ob lb B1 : Nat} {rv gv mv bv wv lv tv wv1 yv : Value} {Sm Sw Sl St Sg : Nat → Prop} {rk y : List Int} {g : List (List Int)} {M : List (List (List (List Q.S78)))} {row : List (List (List Q.S78))} {lst : List Q.S78} {alts : List (List Q.S78)} {bs : List (Nat × Array Value)}
theorem AL.start (h : AS w W bs ob B1 rv gv mv bv Sm rk g M) : AL w W bs ob B1 rv gv mv bv rk g M rv rk (.slice none 0 0) (.slice none 0 0) Sm (fun _ => False) (fun _ => False) [] [] :=
  ⟨h, Kd.R_nil _ _ _ _ _, Kd.R_nil _ _ _ _ _, h.hRk, fun _ _ h => h, fun _ _ h => h, fun _ _ h => h⟩
end
end Go.Proofs.Ytmphigeefppfpaa.H
namespace Go.Proofs.Ytmphigeefppfpaa.H
open Go.RowKit Go.Proofs.YtmphigeefppfpaaW.PrintWords Go.Proofs.YtmphigeefppfpaaW.PrintLast Go.Proofs.YtmphigeefppfpaaW.PrintMore
set_option linter.unusedVariables false
def TurnRow (W : World) (base g : Nat) (A : Option Addr) (m : Nat) : Prop := m = 0 ∨ ∃ b cs, A = some ⟨b, 0, none⟩ ∧ base ≤ b ∧ b ≠ g ∧ W.heap[b]? = some (.cells cs 3 (0, 0)) ∧ ∀ k : Nat, k < m → ∃ x, cs[k]? = some (.int .i64 x)
def TurnOk (W : World) (base : Nat) (A : Option Addr) (n : Nat) : Prop := n = 0 ∨ ∃ g cs t, A = some ⟨g, 0, none⟩ ∧ base ≤ g ∧ W.heap[g]? = some (.cells cs t (0, 0)) ∧ ∀ i : Nat, i < n → ∃ A' m c, cs[i]? = some (.slice A' m c) ∧ m ≤ 9223372036854775807 ∧ TurnRow W base g A' m
def Kept3 (w w1 : World) : Prop := ∀ (b : Nat) (cs : Array Value) (t : Nat), t ≠ 3 → w.heap[b]? = some (.cells cs t (0, 0)) → w1.heap[b]? = some (.cells cs t (0, 0))
theorem Kept3.set {w w1 : World} (h : Kept3 w w1) {b : Nat} {cs : Array Value} (k : Nat) (u : Value) (hb : w1.heap[b]? = some (.cells cs 3 (0, 0))) : Kept3 w (w1.setCell ⟨b, k, none⟩ u) := fun b' cs' t ht hh => by
  have h1 := h b' cs' t ht hh
  exact blk_far h1 (blk_ne h1 hb ht) _
theorem TurnRow.set {W : World} {base g : Nat} {A : Option Addr} {m : Nat} (h : TurnRow W base g A m) (b k : Nat) (y : Int) : TurnRow (W.setCell ⟨b, k, none⟩ (.int .i64 y)) base g A m := by
  rcases h with h | ⟨b', cs, hA, hb, hne, hh, hx⟩
  · exact .inl h
  · by_cases e : b' = b
    · subst e
      refine .inr ⟨b', _, hA, hb, hne, blk_set hh k (.int .i64 y), fun k' hk' => ?_⟩
      obtain ⟨x, hx'⟩ := hx k' hk'
      rw [Array.getElem?_setIfInBounds]
      by_cases e2 : k = k'
      · subst e2
        rw [if_pos rfl, if_pos (Array.getElem?_eq_some_iff.1 hx').1]
        exact ⟨y, rfl⟩
      · rw [if_neg e2]
        exact ⟨x, hx'⟩
    · exact .inr ⟨b', cs, hA, hb, hne, blk_far hh e _, hx⟩
theorem TurnOk.set {W : World} {base : Nat} {g : Nat} {n : Nat} (h : TurnOk W base (some ⟨g, 0, none⟩) n) (b k : Nat) (y : Int) (hne : b ≠ g) : TurnOk (W.setCell ⟨b, k, none⟩ (.int .i64 y)) base (some ⟨g, 0, none⟩) n := by
  rcases h with h | ⟨g', cs, t, hA, hb, hh, hx⟩
  · exact .inl h
  · injection hA with hA
    injection hA with hA
    subst hA
    refine .inr ⟨g, cs, t, rfl, hb, blk_far hh (fun e => hne e.symm) _, fun i hi => ?_⟩
    obtain ⟨A', m, c, h1, h2, h3⟩ := hx i hi
    exact ⟨A', m, c, h1, h2, h3.set b k y⟩
theorem R_turn {A : Option Addr} {n c base : Nat} {ok : Nat → Prop} {W : World} {l : List (List Int)} (h : Kd.R (Kd.slice 3 (Kd.int .i64)) 25 W base ok (.slice A n c) l) : TurnOk W base A n := by
  by_cases h0 : n = 0
  · exact .inl h0
  obtain ⟨g, rfl⟩ : ∃ b, A = some ⟨b, 0, none⟩ := by
    obtain ⟨_, inner, ⟨_, ho⟩, _⟩ := h
    rcases ho with ⟨hv, _⟩ | ⟨g', cap', cur, hv, _⟩
    · injection hv with h1 h2 _; omega
    · injection hv with h1 _ _; exact ⟨g', h1⟩
  obtain ⟨cs, hh⟩ := Kd.R_typed h g rfl
  refine .inr ⟨g, cs, 25, rfl, Kd.R_base h g rfl, hh, fun i hi => ?_⟩
  obtain ⟨cl, hcl, hM, hcc, _⟩ := Kd.R_elem h [] (i : Int) (by omega) (by omega)
  obtain ⟨u, rfl, hR⟩ := hM
  have hcc0 := hcc 0 u rfl
  rw [show (Kd.slice 3 (Kd.int .i64)).sz = 1 from rfl, Int.toNat_natCast, Nat.mul_one, Nat.add_zero, blk_cell hh] at hcc0
  obtain ⟨A', c', rfl⟩ := Kd.R_slice hR
  refine ⟨A', _, c', hcc0, (Kd.R_reads' hR).2.2.2.1, ?_⟩
  generalize l.getD (i : Int).toNat [] = xs at *
  by_cases hm : xs.length = 0
  · exact .inl hm
  obtain ⟨b, rfl⟩ : ∃ b, A' = some ⟨b, 0, none⟩ := by
    obtain ⟨_, inner, ⟨_, ho⟩, _⟩ := hR
    rcases ho with ⟨hv, _⟩ | ⟨g', cap', cur, hv, _⟩
    · injection hv with h1 h2 _; omega
    · injection hv with h1 _ _; exact ⟨g', h1⟩
  obtain ⟨cs', hh'⟩ := Kd.R_typed hR b rfl
  refine .inr ⟨b, cs', rfl, Kd.R_base hR b rfl, (hR.1 b rfl).2, hh', fun k hk => ?_⟩
  have hc := (Kd.R_celln 0 hR (k : Int) (by omega) (by omega)).1
  rw [Int.toNat_natCast, blk_cell hh'] at hc
  exact ⟨_, hc⟩
set_option maxHeartbeats 4000000 in
theorem turn_calls (base : Nat) (ev st : Int) (A : Option Addr) (n c : Nat) (w : World) (h : TurnOk w base A n) (hn : n ≤ 9223372036854775807) (hb : base ≤ w.heap.size) :
    Calls Try.prog 37 #[.agg #[.int .i64 ev, .int .i64 st, .slice A n c]] w fun e w' => e = .returned (.tuple #[]) ∧ Below base w w' ∧ Kept3 w w' := by
  have HT := Aside0.mk h
  clear h
  go_enter Try.func37, Try.ntmps37
  go_upto_region 1 with (fail)
  have hbl := below_alloc (Below.refl w.heap.size w) (.cells #[.int .i64 ev, .int .i64 st, .slice A n c] 24)
  obtain ⟨hc0, hc1, hc2⟩ := box_cells (blk_new w (.cells #[.int .i64 ev, .int .i64 st, .slice A n c] 24))
  have HB := Aside0.mk (hbl.mono hb)
  have HT1 := Aside0.mk (show TurnOk (w.alloc (.cells #[.int .i64 ev, .int .i64 st, .slice A n c] 24)) base A n from by
    rcases HT.out with h | ⟨g, cs, t, hA, hg, hh, hx⟩
    · exact .inl h
    · refine .inr ⟨g, cs, t, hA, hg, blk_below hh hbl, fun i hi => ?_⟩
      obtain ⟨A', m, c, h1, h2, h3⟩ := hx i hi
      refine ⟨A', m, c, h1, h2, ?_⟩
      rcases h3 with h3 | ⟨b, cs', hA', hb', hne, hh', hx'⟩
      · exact .inl h3
      · exact .inr ⟨b, cs', hA', hb', hne, blk_below hh' hbl, hx'⟩)
  have HK := Aside0.mk (show Kept3 w (w.alloc (.cells #[.int .i64 ev, .int .i64 st, .slice A n c] 24)) from fun b cs t _ hh => blk_below hh hbl)
  have HS := Aside0.mk (show base ≤ (w.alloc (.cells #[.int .i64 ev, .int .i64 st, .slice A n c] 24)).heap.size from Nat.le_trans hb hbl.size)
  clear hbl HT hb
  generalize (w.alloc (.cells #[.int .i64 ev, .int .i64 st, .slice A n c] 24)) = w0 at *
  go_wp2
  clear hc0 hc1 hc2
  go_loopg [8] n (fun gg v8 wi => ∃ i : Nat, i ≤ n ∧ n - i ≤ gg ∧ v8 = .int .i64 i ∧ Aside0 (Below base w wi) ∧ Aside0 (Kept3 w wi) ∧ Aside0 (base ≤ wi.heap.size) ∧ Aside0 (TurnOk wi base A n))
  case atStart => exact ⟨0, by omega, by omega, rfl, HB, HK, HS, HT1⟩
  case round =>
    clear HB HK HS HT1
    obtain ⟨i, hin, hgg, rfl, HB, HK, HS, HT⟩ := hrel
    by_cases hlt : i < n
    · have hltz : (i : Int) < (n : Int) := by omega
      obtain ⟨g, cs, t, hA, hg, hh, hx⟩ := HT.out.resolve_left (by omega)
      subst hA
      obtain ⟨A', m, c', h1, h2, h3⟩ := hx i hlt
      have hci : wr.cell? ⟨g, i, none⟩ = some (.slice A' m c') := (blk_cell hh i).trans h1
      have HR := Aside0.mk h3
      clear hx hh h1 h3
      go_wp2
      clear hci
      go_loopg [14] m (fun gg2 v14 wi => ∃ k : Nat, k ≤ m ∧ m - k ≤ gg2 ∧ v14 = .int .i64 k ∧ Aside0 (Below base w wi) ∧ Aside0 (Kept3 w wi) ∧ Aside0 (base ≤ wi.heap.size) ∧ Aside0 (TurnOk wi base (some ⟨g, 0, none⟩) n) ∧ Aside0 (TurnRow wi base g A' m))
      case atStart => exact ⟨0, by omega, by omega, rfl, HB, HK, HS, HT, HR⟩
      case round =>
        clear HB HK HS HT HR
        obtain ⟨k, hkm, hg2, rfl, HB, HK, HS, HT, HR⟩ := hrel
        by_cases hkt : k < m
        · have hktz : (k : Int) < (m : Int) := by omega
          obtain ⟨b, cs', hA', hb', hne, hh', hx'⟩ := HR.out.resolve_left (by omega)
          subst hA'
          obtain ⟨x, hxk⟩ := hx' k hkt
          have hcx : wr.cell? ⟨b, k, none⟩ = some (.int .i64 x) := (blk_cell hh' k).trans hxk
          have hfx : wr.frozen? ⟨b, k, none⟩ = false := blk_frozen hh' k
          have HNE := Aside0.mk hne
          have HBB := Aside0.mk hb'
          have HHB := Aside0.mk hh'
          clear hx' hh' hxk hne hb'
          go_wp2
          go_roundg (m - (k + 1))
          case measure => omega
          case rel =>
            exact ⟨k + 1, by omega, by omega, by go_num, ⟨pw_below_grown HB.out _ HS.out (grown_setCell wr ⟨b, k, none⟩ _) (fun j hj => by cases hj; exact HBB.out)⟩, ⟨(HK.out).set k _ HHB.out⟩, ⟨Nat.le_trans HS.out (grown_setCell wr ⟨b, k, none⟩ _).size⟩, ⟨(HT.out).set b k _ HNE.out⟩, ⟨(HR.out).set b k _⟩⟩
        · have hktz : ¬ (k : Int) < (m : Int) := by omega
          go_wp2
          go_roundg (n - (i + 1))
          case measure => omega
          case rel => exact ⟨i + 1, by omega, by omega, by go_num, HB, HK, HS, HT⟩
    · have hltz : ¬ (i : Int) < (n : Int) := by omega
      go_wp2
      go_end0
      exact ⟨rfl, HB.out, HK.out⟩
end Go.Proofs.Ytmphigeefppfpaa.H
namespace Go.Proofs.Ytmphigeefppfpaa.H
open Go.RowKit Go.Proofs.YtmphigeefppfpaaW.PrintWords Go.Proofs.YtmphigeefppfpaaW.PrintLast Go.Proofs.YtmphigeefppfpaaW.PrintMore
set_option linter.unusedVariables false
theorem copy_l0 (ev st : Int) (l : List (List Int)) (hm : l.length ≤ 5864062014805) (hrow : ∀ r ∈ l, r.length < 17592186044416) (d : Nat) : ∀ j : Nat, l.length - j = d → j ≤ l.length →
    Ev (fun k => Q.virgationref11_Copy.l0 k l (l.length : Int) (j : Int) ev st (l.take j)) (ev, st, l) := by
  induction d with
  | zero =>
    intro j hd hj
    refine ev_end fun k => ?_
    simp only [Q.virgationref11_Copy.l0]
    rw [if_neg (by omega), List.take_of_length_le (by omega)]
  | succ d ih =>
    intro j hd hj
    have hlt : j < l.length := by omega
    have e : Q.rd_L1 l (j : Int) = l[j] := by simp [Q.rd_L1, List.getD_eq_getElem?_getD, List.getElem?_eq_getElem hlt]
    have ht : l.take (j + 1) = l.take j ++ [l[j]] := by rw [List.take_add_one, List.getElem?_eq_getElem hlt]; rfl
    have hr := hrow _ (List.getElem_mem hlt)
    have hl : (l.take j).length < 5864062014805 := by rw [List.length_take]; omega
    refine ev_next (ih (j + 1) (by omega) (by omega)) fun k => ?_
    simp only [Q.virgationref11_Copy.l0]
    rw [if_pos (by omega), if_pos (by omega), if_pos (by omega), Option.bind_some, e, if_pos (by simpa using hr), if_pos hl, wrap_succ (by omega) (by omega), List.nil_append, ← ht]
    rfl
theorem copy_calls (ev st : Int) (A : Option Addr) (c : Nat) (l : List (List Int)) (w : World) (hr : Kd.C (Kd.slice 3 (Kd.int .i64)) w A l.length l) (hc : l.length ≤ c) (hm : l.length ≤ 5864062014805) (hrow : ∀ r ∈ l, r.length < 17592186044416) :
    Calls Try.prog 36 #[.agg #[.int .i64 ev, .int .i64 st, .slice A l.length c]] w fun e w' => ∃ (A2 : Option Addr) (c2 : Nat) (So : Nat → Prop), e = .returned (.agg #[.int .i64 ev, .int .i64 st, .slice A2 l.length c2]) ∧ Kd.R (Kd.slice 3 (Kd.int .i64)) 25 w' w.heap.size So (.slice A2 l.length c2) l ∧ Below w.heap.size w w' := by
  obtain ⟨k, hk⟩ := (copy_l0 ev st l hm hrow _ 0 rfl (Nat.zero_le _)).rounds
  refine (Q.virgationref11_Copy.calls k ev st A c l ev st l w hr hc hk).mono fun e w' h => ?_
  obtain ⟨v, rfl, hS, hb⟩ := h
  have hR := Kd.S_R hS
  obtain ⟨A2, c2, rfl, hc2, _⟩ := Kd.R_reads hR
  exact ⟨A2, c2, _, rfl, hR, hb⟩
end Go.Proofs.Ytmphigeefppfpaa.H
namespace Go.Proofs.Ytmphigeefppfpaa.H
open Go.RowKit Go.Proofs.YtmphigeefppfpaaW.PrintWords Go.Proofs.YtmphigeefppfpaaW.PrintLast Go.Proofs.YtmphigeefppfpaaW.PrintMore
set_option linter.unusedVariables false
structure PT where
  p : Int × Int
  wd : List Int
  par : Int × Int
  ev : Int
def root (s : Int × Int) : PT := ⟨s, [], (0, 0), 0⟩
def stp (la lb : List (List Int)) (p : Int × Int) (e : Nat) : Int × Int := (nextB la p.1 e, nextB lb p.2 e)
def nxt (la lb : List (List Int)) (x : PT) (e : Nat) : PT := ⟨stp la lb x.p e, x.wd ++ [(e : Int)], x.p, e⟩
def oneB (y : Int × Int) : Bool := decide (y.1 < 0) != decide (y.2 < 0)
def seenB (y : Int × Int) (l : List PT) : Bool := decide (y.1 < 0) || l.any fun z => decide (z.p = y)
def apRow (la lb : List (List Int)) (x : PT) (l : List PT) : Nat → List PT
  | 0 => l
  | e + 1 => if oneB (stp la lb x.p e) || seenB (stp la lb x.p e) (apRow la lb x l e) then apRow la lb x l e else apRow la lb x l e ++ [nxt la lb x e]
def apTo (la lb : List (List Int)) (n : Nat) (s : Int × Int) : Nat → List PT
  | 0 => [root s]
  | i + 1 => match (apTo la lb n s i)[i]? with
    | some x => apRow la lb x (apTo la lb n s i) n
    | none => apTo la lb n s i
def rowAns (la lb : List (List Int)) (x : PT) : Nat → Option (List Int)
  | 0 => none
  | e + 1 => match rowAns la lb x e with
    | some w => some w
    | none => if oneB (stp la lb x.p e) then some (x.wd ++ [(e : Int)]) else none
def apAns (la lb : List (List Int)) (n : Nat) (s : Int × Int) : Nat → Option (List Int)
  | 0 => none
  | i + 1 => match apAns la lb n s i with
    | some w => some w
    | none => (apTo la lb n s i)[i]?.bind fun x => rowAns la lb x n
section
variable {la lb : List (List Int)} {n e e' i m N : Nat} {s : Int × Int} {x : PT} {l : List PT}
theorem rowAns_found (h : rowAns la lb x e = none) (h1 : oneB (stp la lb x.p e) = true) : ∀ d, rowAns la lb x (e + 1 + d) = some (x.wd ++ [(e : Int)])
  | 0 => by rw [Nat.add_zero, rowAns, h]; simp only; rw [if_pos h1]
  | d + 1 => by rw [← Nat.add_assoc, rowAns, rowAns_found h h1 d]
theorem rowAns_next (h : rowAns la lb x e = none) (h1 : oneB (stp la lb x.p e) = false) : rowAns la lb x (e + 1) = none := by
  rw [rowAns, h]; simp only; rw [if_neg (by simp [h1])]
theorem apAns_found {w : List Int} (h : apAns la lb n s i = none) (hx : (apTo la lb n s i)[i]? = some x) (h1 : rowAns la lb x n = some w) : ∀ d, apAns la lb n s (i + 1 + d) = some w
  | 0 => by rw [Nat.add_zero, apAns, h]; simp only; rw [hx]; exact h1
  | d + 1 => by rw [← Nat.add_assoc, apAns, apAns_found h hx h1 d]
theorem apAns_next (h : apAns la lb n s i = none) (hx : (apTo la lb n s i)[i]? = some x) (h1 : rowAns la lb x n = none) : apAns la lb n s (i + 1) = none := by
  rw [apAns, h]; simp only; rw [hx]; exact h1
theorem apAns_end (h : apAns la lb n s i = none) (hx : (apTo la lb n s i)[i]? = none) : apAns la lb n s (i + 1) = none := by
  rw [apAns, h]; simp only; rw [hx]; rfl
theorem apTo_step (hx : (apTo la lb n s i)[i]? = some x) : apTo la lb n s (i + 1) = apRow la lb x (apTo la lb n s i) n := by
  rw [apTo]; simp only [hx]
theorem apTo_stop (hx : (apTo la lb n s i)[i]? = none) : apTo la lb n s (i + 1) = apTo la lb n s i := by
  rw [apTo]; simp only [hx]
theorem apTo_stays (hx : (apTo la lb n s i)[i]? = none) (d : Nat) : apTo la lb n s (i + d) = apTo la lb n s i := by
  induction d with
  | zero => rfl
  | succ d ih =>
    rw [← Nat.add_assoc, apTo_stop, ih]
    rw [ih]
    rw [List.getElem?_eq_none_iff] at hx ⊢
    omega
theorem apAns_stays (h : apAns la lb n s i = none) (hx : (apTo la lb n s i)[i]? = none) (d : Nat) : apAns la lb n s (i + d) = none := by
  induction d with
  | zero => exact h
  | succ d ih =>
    rw [← Nat.add_assoc]
    refine apAns_end ih ?_
    rw [apTo_stays hx d]
    rw [List.getElem?_eq_none_iff] at hx ⊢
    omega
theorem apRow_pre : ∃ r, apRow la lb x l e = l ++ r := by
  induction e with
  | zero => exact ⟨[], by simp [apRow]⟩
  | succ e ih =>
    obtain ⟨r, hr⟩ := ih
    simp only [apRow]
    split
    · exact ⟨r, hr⟩
    · exact ⟨r ++ [nxt la lb x e], by rw [hr, List.append_assoc]⟩
theorem apRow_mono (h : e ≤ e') : (apRow la lb x l e).length ≤ (apRow la lb x l e').length := by
  induction e' with
  | zero => obtain rfl : e = 0 := by omega
            exact Nat.le_refl _
  | succ e' ih =>
    rcases Nat.lt_or_ge e (e' + 1) with h1 | h1
    · refine Nat.le_trans (ih (by omega)) ?_
      simp only [apRow]
      split
      · exact Nat.le_refl _
      · simp
    · obtain rfl : e = e' + 1 := by omega
      exact Nat.le_refl _
structure Chain (s : Int × Int) (L : List PT) : Prop where
  nd : (L.map (·.p)).Nodup
  hr : root s ∈ L
  hc : ∀ t ∈ L, t = root s ∨ (t.p ≠ s ∧ ∃ q ∈ L, q.p = t.par ∧ t.wd = q.wd ++ [t.ev])
theorem Chain.start : Chain s [root s] := ⟨by simp, List.mem_singleton.2 rfl, fun t ht => .inl (List.mem_singleton.1 ht)⟩
theorem Chain.snoc2 {L : List PT} (h : Chain s L) (hx : x ∈ L) (y : Int × Int) (ev : Int) (hn : y ∉ L.map (·.p)) : Chain s (L ++ [⟨y, x.wd ++ [ev], x.p, ev⟩]) := by
  refine ⟨?_, List.mem_append_left _ h.hr, fun t ht => ?_⟩
  · rw [List.map_append]
    exact List.nodup_append.2 ⟨h.nd, by simp, fun a ha b hb => by
      simp only [List.map_cons, List.map_nil, List.mem_singleton] at hb
      rw [hb]; exact fun he => hn (by rw [← he]; exact ha)⟩
  · rcases List.mem_append.1 ht with ht | ht
    · rcases h.hc t ht with h1 | ⟨h1, q, hq, h2⟩
      · exact .inl h1
      · exact .inr ⟨h1, q, List.mem_append_left _ hq, h2⟩
    · rw [List.mem_singleton.1 ht]
      exact .inr ⟨fun e => hn (List.mem_map.2 ⟨_, h.hr, e.symm⟩), x, List.mem_append_left _ hx, rfl, rfl⟩
theorem Chain.snoc {L : List PT} (h : Chain s L) (hx : x ∈ L) (hn : stp la lb x.p e ∉ L.map (·.p)) : Chain s (L ++ [nxt la lb x e]) := h.snoc2 hx _ _ hn
theorem nodup_inj {α β : Type} {f : α → β} : ∀ {L : List α}, (L.map f).Nodup → ∀ {a b : α}, a ∈ L → b ∈ L → f a = f b → a = b
  | [], _, _, _, ha, _, _ => absurd ha List.not_mem_nil
  | z :: L, h, a, b, ha, hb, he => by
    rw [List.map_cons, List.nodup_cons] at h
    rcases List.mem_cons.1 ha with h1 | ha
    · rcases List.mem_cons.1 hb with h2 | hb
      · rw [h1, h2]
      · exact absurd (List.mem_map.2 ⟨b, hb, by rw [← he, h1]⟩) h.1
    · rcases List.mem_cons.1 hb with h2 | hb
      · exact absurd (List.mem_map.2 ⟨a, ha, by rw [he, h2]⟩) h.1
      · exact nodup_inj h.2 ha hb he
def ents (L : List PT) : List ((Int × Int) × ((Int × Int) × Int)) := L.map fun t => (t.p, (t.par, t.ev))
theorem ents_keys (L : List PT) : (ents L).map (·.1) = L.map (·.p) := by simp [ents, Function.comp_def]
theorem mget_ents : ∀ {L : List PT}, (L.map (·.p)).Nodup → ∀ {t : PT}, t ∈ L → mget t.p (ents L) = some (t.par, t.ev)
  | [], _, _, ht => absurd ht List.not_mem_nil
  | z :: L, h, t, ht => by
    rw [List.map_cons, List.nodup_cons] at h
    rcases List.mem_cons.1 ht with h1 | ht
    · subst h1; simp [ents, mget]
    · have hne : z.p ≠ t.p := fun e => h.1 (List.mem_map.2 ⟨t, ht, e.symm⟩)
      have := mget_ents h.2 ht
      simp only [ents, mget, List.map_cons, List.find?_cons, decide_eq_false hne] at this ⊢
      exact this
theorem seen_iff {y : Int × Int} {l : List PT} : seenB y l = true ↔ y.1 < 0 ∨ y ∈ l.map (·.p) := by
  unfold seenB
  rw [Bool.or_eq_true, decide_eq_true_eq, List.any_eq_true, List.mem_map]
  simp
theorem apRow_chain (hc : Chain s l) (hx : x ∈ l) : Chain s (apRow la lb x l e) := by
  induction e with
  | zero => exact hc
  | succ e ih =>
    simp only [apRow]
    split
    · exact ih
    · rename_i hs
      refine ih.snoc ?_ (fun hm => hs ?_)
      · obtain ⟨r, hr⟩ := apRow_pre (la := la) (lb := lb) (x := x) (l := l) (e := e)
        rw [hr]; exact List.mem_append_left _ hx
      · rw [Bool.or_eq_true]
        exact .inr (seen_iff.2 (.inr hm))
theorem apTo_chain : ∀ i, Chain s (apTo la lb n s i)
  | 0 => Chain.start
  | i + 1 => by
    cases hx : (apTo la lb n s i)[i]? with
    | none => rw [apTo_stop hx]; exact apTo_chain i
    | some x => rw [apTo_step hx]; exact apRow_chain (apTo_chain i) (List.mem_of_getElem? hx)
def domB (la lb : List (List Int)) (p : Int × Int) : Prop := domS la p.1 ∧ domS lb p.2
theorem domB.q {p : Int × Int} (h : domB la lb p) : domQ la lb p := ⟨⟨by have := h.1.1; omega, h.1.2⟩, ⟨by have := h.2.1; omega, h.2.2⟩⟩
theorem stp_dom {ev sa sb : Int} (ha : specOk ev sa la = true) (hb : specOk ev sb lb = true) {p : Int × Int} (hp : domQ la lb p) (he : (e : Int) < ev) : domQ la lb (stp la lb p e) :=
  ⟨nextB_dom ha hp.1 (by omega) he, nextB_dom hb hp.2 (by omega) he⟩
theorem stp_both {p : Int × Int} (h : domQ la lb p) (h1 : oneB p = false) (h2 : ¬ p.1 < 0) : domB la lb p := by
  unfold oneB at h1
  rw [decide_eq_false h2] at h1
  have h3 : ¬ p.2 < 0 := fun h => by rw [decide_eq_true h] at h1; simp at h1
  exact ⟨⟨by omega, h.1.2⟩, ⟨by omega, h.2.2⟩⟩
theorem apRow_dom {ev sa sb : Int} (ha : specOk ev sa la = true) (hb : specOk ev sb lb = true) (hl : ∀ t ∈ l, domB la lb t.p) (hx : domB la lb x.p) : ∀ e : Nat, (e : Int) ≤ ev → ∀ t ∈ apRow la lb x l e, domB la lb t.p
  | 0, _ => hl
  | e + 1, he => by
    have ih := apRow_dom ha hb hl hx e (by omega)
    intro t ht
    simp only [apRow] at ht
    split at ht
    · exact ih t ht
    · rename_i hs
      rcases List.mem_append.1 ht with ht | ht
      · exact ih t ht
      · rw [List.mem_singleton.1 ht]
        rw [Bool.or_eq_true, not_or] at hs
        exact stp_both (stp_dom ha hb hx.q (by omega)) (show oneB (stp la lb x.p e) = false by simpa using hs.1) (fun h => hs.2 (seen_iff.2 (.inl h)))
theorem apTo_dom {sa sb : Int} (ha : specOk n sa la = true) (hb : specOk n sb lb = true) (hs : domB la lb s) : ∀ i, ∀ t ∈ apTo la lb n s i, domB la lb t.p
  | 0 => fun t ht => by rw [List.mem_singleton.1 ht]; exact hs
  | i + 1 => by
    cases hx : (apTo la lb n s i)[i]? with
    | none => rw [apTo_stop hx]; exact apTo_dom ha hb hs i
    | some x =>
      rw [apTo_step hx]
      exact apRow_dom ha hb (apTo_dom ha hb hs i) (apTo_dom ha hb hs i x (List.mem_of_getElem? hx)) n (Int.le_refl _)
theorem pairs_bound {L : List (Int × Int)} (hn : L.Nodup) (hd : ∀ p ∈ L, domQ la lb p) : L.length ≤ pairs la lb := by
  let f : Int × Int → Nat := fun x => (x.1 + 1).toNat * (lb.length + 1) + (x.2 + 1).toNat
  have h2 : (L.map f).Nodup := by
    refine List.Pairwise.map _ ?_ (List.Pairwise.imp_of_mem (R := fun a b => a ≠ b) (S := fun a b => f a ≠ f b) ?_ hn)
    · exact fun a b h => h
    · intro a b ha hb hne he
      obtain ⟨⟨a1, a2⟩, a3, a4⟩ := hd a ha
      obtain ⟨⟨b1, b2⟩, b3, b4⟩ := hd b hb
      obtain ⟨e1, e2⟩ := code_inj (by omega) (by omega) he
      exact hne (Prod.ext (by omega) (by omega))
  have h3 := h2.length_le_of_subset (l₂ := List.range (pairs la lb)) (fun x hx => by
    obtain ⟨a, ha, rfl⟩ := List.mem_map.1 hx
    obtain ⟨⟨a1, a2⟩, a3, a4⟩ := hd a ha
    exact List.mem_range.2 (code_lt (by omega) (by omega)))
  simpa using h3
theorem apTo_le {sa sb : Int} (ha : specOk n sa la = true) (hb : specOk n sb lb = true) (hs : domB la lb s) (i : Nat) : (apTo la lb n s i).length ≤ pairs la lb := by
  have h := pairs_bound (la := la) (lb := lb) (apTo_chain (la := la) (lb := lb) (n := n) (s := s) i).nd (fun p hp => by
    obtain ⟨t, ht, rfl⟩ := List.mem_map.1 hp
    exact (apTo_dom ha hb hs i t ht).q)
  simpa using h
theorem one_new (hl : ∀ t ∈ l, domB la lb t.p) {y : Int × Int} (h : oneB y = true) : y ∉ l.map (·.p) := fun hm => by
  obtain ⟨t, ht, rfl⟩ := List.mem_map.1 hm
  have h1 := (hl t ht).1.1
  have h2 := (hl t ht).2.1
  unfold oneB at h
  rw [decide_eq_false (by omega), decide_eq_false (by omega)] at h
  simp at h
theorem apRow_wd (hl : ∀ t ∈ l, t.wd.length ≤ m) (hx : x.wd.length < m) : ∀ t ∈ apRow la lb x l e, t.wd.length ≤ m := by
  induction e with
  | zero => exact hl
  | succ e ih =>
    intro t ht
    simp only [apRow] at ht
    split at ht
    · exact ih t ht
    · rcases List.mem_append.1 ht with ht | ht
      · exact ih t ht
      · rw [List.mem_singleton.1 ht]
        simp [nxt]; omega
theorem apTo_wd : ∀ i, ∀ t ∈ apTo la lb n s i, t.wd.length ≤ i
  | 0 => fun t ht => by rw [List.mem_singleton.1 ht]; simp [root]
  | i + 1 => by
    cases hx : (apTo la lb n s i)[i]? with
    | none => rw [apTo_stop hx]; exact fun t ht => Nat.le_succ_of_le (apTo_wd i t ht)
    | some x =>
      rw [apTo_step hx]
      exact apRow_wd (fun t ht => Nat.le_succ_of_le (apTo_wd i t ht)) (Nat.lt_succ_of_le (apTo_wd i x (List.mem_of_getElem? hx)))
end
end Go.Proofs.Ytmphigeefppfpaa.H
namespace Go.Proofs.Ytmphigeefppfpaa.H
open Go.RowKit Go.Proofs.YtmphigeefppfpaaW.PrintWords Go.Proofs.YtmphigeefppfpaaW.PrintLast Go.Proofs.YtmphigeefppfpaaW.PrintMore
set_option linter.unusedVariables false
def ApEnd (a : Option (List Int)) (err : Int) (w : World) (E : Ending) (w' : World) : Prop :=
  ∃ (A : Option Addr) (c : Nat), (a.getD []).length ≤ c ∧ E = .returned (.tuple #[.slice A (a.getD []).length c, .bool a.isSome, .int .i64 err]) ∧ Kd.C (Kd.int .i64) w' A (a.getD []).length (a.getD []) ∧ Below w.heap.size w w'
def apVal (ea sa : Int) (la : List (List Int)) (eb sb : Int) (lb : List (List Int)) : Option (List Int) := if pairVal ea sa la eb sb lb = 0 then apAns la lb ea.toNat (sa, sb) (pairs la lb) else none
theorem C_nil (w : World) : Kd.C (Kd.int .i64) w none 0 [] := (Kd.R_reads' (Kd.R_nil (Kd.int .i64) 3 w 0 (fun _ => True))).2.2
end Go.Proofs.Ytmphigeefppfpaa.H
namespace Go.Proofs.Ytmphigeefppfpaa.H
open Go.RowKit Go.Proofs.YtmphigeefppfpaaW.PrintWords Go.Proofs.YtmphigeefppfpaaW.PrintLast Go.Proofs.YtmphigeefppfpaaW.PrintMore
set_option linter.unusedVariables false
def RevTo (xs cur : List Int) (k : Nat) : Prop := cur.length = xs.length ∧ ∀ p, p < xs.length → cur.getD p 0 = if p < k ∨ xs.length - k ≤ p then xs.getD (xs.length - 1 - p) 0 else xs.getD p 0
theorem RevTo.start (xs : List Int) : RevTo xs xs 0 := ⟨rfl, fun p hp => by rw [if_neg (by omega)]⟩
theorem RevTo.end_ {xs cur : List Int} {k : Nat} (h : RevTo xs cur k) (hk : xs.length ≤ 2 * k + 1) : cur = xs.reverse := by
  refine List.ext_getElem (by rw [h.1, List.length_reverse]) fun p h1 h2 => ?_
  have h3 : p < xs.length := by rw [← h.1]; exact h1
  have h4 := h.2 p h3
  rw [List.getElem_reverse]
  rw [List.getD_eq_getElem?_getD, List.getElem?_eq_getElem h1, Option.getD_some] at h4
  rw [h4]
  split
  · rw [List.getD_eq_getElem?_getD, List.getElem?_eq_getElem (by omega), Option.getD_some]
  · have : p = xs.length - 1 - p := by omega
    rw [List.getD_eq_getElem?_getD, List.getElem?_eq_getElem (by omega), Option.getD_some]
    congr 1
theorem RevTo.step {xs cur : List Int} {k : Nat} (h : RevTo xs cur k) (hk : 2 * k + 1 < xs.length) : RevTo xs ((cur.set k (cur.getD (xs.length - 1 - k) 0)).set (xs.length - 1 - k) (cur.getD k 0)) (k + 1) := by
  refine ⟨by rw [List.length_set, List.length_set, h.1], fun p hp => ?_⟩
  have hk0 := h.2 k (by omega)
  have hk1 := h.2 (xs.length - 1 - k) (by omega)
  have hp0 := h.2 p hp
  rw [if_neg (by omega)] at hk0 hk1
  rw [List.getD_eq_getElem?_getD, List.getElem?_set, List.getElem?_set]
  by_cases e1 : xs.length - 1 - k = p
  · rw [if_pos e1, List.length_set, h.1, if_pos (by omega), Option.getD_some, if_pos (by omega), hk0]
    congr 1; omega
  · rw [if_neg e1]
    by_cases e2 : k = p
    · rw [if_pos e2, h.1, if_pos (by omega), Option.getD_some, if_pos (by omega), hk1]
      congr 1; omega
    · rw [if_neg e2, ← List.getD_eq_getElem?_getD, hp0]
      by_cases e3 : p < k ∨ xs.length - k ≤ p
      · rw [if_pos e3, if_pos (by omega)]
      · rw [if_neg e3, if_neg (by omega)]
theorem grown_trans {W W1 W2 : World} {row : Option Nat} (h : W.grownBy W1 row) (h2 : W1.grownBy W2 row) : W.grownBy W2 row := ⟨h2.os.trans h.os, h2.tape.trans h.tape, h2.output.trans h.output, Nat.le_trans h.size h2.size, fun i hi hne => (h2.block i (Nat.lt_of_lt_of_le hi h.size) hne).trans (h.block i hi hne)⟩
def RevEnd (base : Nat) (S : Nat → Prop) (v : Value) (xs : List Int) (w : World) (E : Ending) (w' : World) : Prop := E = .returned (.tuple #[]) ∧ Kd.R (Kd.int .i64) 3 w' base S v xs.reverse ∧ w.grownBy w' v.ownBlock
set_option maxHeartbeats 2000000 in
theorem reverse_calls (base : Nat) (S : Nat → Prop) (A : Option Addr) (c : Nat) (xs : List Int) (w : World) (hr : Kd.R (Kd.int .i64) 3 w base S (.slice A xs.length c) xs) :
    Calls Try.prog 45 #[.slice A xs.length c] w (RevEnd base S (.slice A xs.length c) xs w) := by
  have HR := Aside0.mk hr
  have hm := (Kd.R_reads' hr).2.2.2.1
  clear hr
  by_cases h0 : xs.length = 0
  · have hx : xs = [] := List.eq_nil_of_length_eq_zero h0
    subst hx
    clear hm h0
    go_enter Try.func45, Try.ntmps45
    go_wp2
    go_loopg [2, 3] 0 (fun gg v2 v3 wi => v2 = .int .i64 0 ∧ v3 = .int .i64 (-1) ∧ w = wi)
    case atStart => exact ⟨rfl, rfl, rfl⟩
    case round =>
      obtain ⟨rfl, rfl, rfl⟩ := hrel
      go_wp2
      go_end0
      exact ⟨rfl, HR.out, World.grownBy.refl _ _⟩
  · obtain ⟨g, hg⟩ : ∃ g, A = some ⟨g, 0, none⟩ := by
      rcases (HR.out).2.choose_spec.1.2 with ⟨hv, hn⟩ | ⟨g, cap, cur, hv, _⟩
      · injection hv with h1 h2 _; omega
      · injection hv with h1 _ _; exact ⟨g, h1⟩
    subst hg
    have hn1 : 1 ≤ xs.length := by omega
    generalize hN : xs.length = N at *
    have HNN := Aside0.mk hN
    clear hN h0
    go_enter Try.func45, Try.ntmps45
    go_wp2
    go_loopg [2, 3] N (fun gg v2 v3 wi => ∃ (k : Nat) (j : Int) (cur : List Int), 2 * k ≤ N ∧ N - 2 * k ≤ gg ∧ v2 = .int .i64 k ∧ v3 = .int .i64 j ∧ -1 ≤ j ∧ j < N ∧ Aside0 (j = (N : Int) - 1 - k) ∧ Aside0 (RevTo xs cur k) ∧ Aside0 (Kd.R (Kd.int .i64) 3 wi base S (.slice (some ⟨g, 0, none⟩) N c) cur) ∧ Aside0 (w.grownBy wi (some g)))
    case atStart => exact ⟨0, (N : Int) - 1, xs, by omega, by omega, rfl, rfl, by omega, by omega, ⟨by omega⟩, ⟨RevTo.start xs⟩, HR, ⟨World.grownBy.refl _ _⟩⟩
    case round =>
      clear HR
      obtain ⟨k, j, cur, hk, hgg, rfl, rfl, hj0, hj1, HJ, HV, HR, HG⟩ := hrel
      by_cases hlt : (k : Int) < j
      · obtain ⟨m, rfl⟩ : ∃ m : Nat, j = (m : Int) := ⟨j.toNat, by omega⟩
        have hkN : (k : Int) < (N : Int) := by omega
        obtain ⟨hc1, hf1⟩ := Kd.R_celln 0 HR.out (k : Int) (by omega) (by omega)
        obtain ⟨hc2, hf2⟩ := Kd.R_celln 0 HR.out (m : Int) (by omega) (by omega)
        rw [Int.toNat_natCast] at hc1 hf1 hc2 hf2
        have hne : k ≠ m := by omega
        go_wp2
        go_region
        go_wp2
        go_roundg (N - 2 * (k + 1))
        case measure => have := (HJ.out); omega
        case rel =>
          have hJ := HJ.out
          have hN := HNN.out
          have P1 := Kd.R_putg HR.out (k : Int) (rdOf 0 cur (m : Int))
          have P2 := Kd.R_putg P1.1 (m : Int) (rdOf 0 cur (k : Int))
          rw [Int.toNat_natCast] at P1
          rw [Int.toNat_natCast, Int.toNat_natCast] at P2
          have hs := (HV.out).step (by omega)
          rw [show xs.length - 1 - k = m from by omega] at hs
          refine ⟨k + 1, (m : Int) - 1, _, by omega, by omega, by go_num, rfl, by omega, by omega, ⟨by omega⟩, ⟨hs⟩, ⟨Kd.R_drew P2.1⟩, ⟨?_⟩⟩
          have hd := grown_of_below (below_drew (Below.refl _ (((wr.setCell ⟨g, k, none⟩ (.int .i64 (rdOf 0 cur (m : Int)))).setCell ⟨g, m, none⟩ (.int .i64 (rdOf 0 cur (k : Int))))))) (some g)
          exact grown_trans (grown_trans HG.out P1.2) (grown_trans P2.2 hd)
      · go_wp2
        go_end0
        refine ⟨rfl, ?_, HG.out⟩
        have hN := HNN.out
        have hJ := HJ.out
        have := (HV.out).end_ (by omega)
        rw [← this]
        exact HR.out
end Go.Proofs.Ytmphigeefppfpaa.H
namespace Go.Proofs.Ytmphigeefppfpaa.H
open Go.RowKit Go.Proofs.YtmphigeefppfpaaW.PrintWords Go.Proofs.YtmphigeefppfpaaW.PrintLast Go.Proofs.YtmphigeefppfpaaW.PrintMore
set_option linter.unusedVariables false
def encY (v : (Int × Int) × Int) : Value := .agg #[.int .i64 v.1.1, .int .i64 v.1.2, .int .i64 v.2]
theorem zero58 (w : World) : (zeroValue 58).run Try.prog w = .ok (.agg #[.int .i64 0, .int .i64 0, .int .i64 0]) w := by kernel_rfl
theorem part2 (a b : Int) (w : World) : (part 3 #[.int .i64 a, .int .i64 b] 0).run Try.prog w = .ok (.int .i64 a) w ∧ (part 3 #[.int .i64 a, .int .i64 b] 1).run Try.prog w = .ok (.int .i64 b) w := ⟨by kernel_rfl, by kernel_rfl⟩
theorem eq56 (a b c e : Int) (w : World) : (Op.equalIn 10000 56 (.agg #[.int .i64 a, .int .i64 b]) (.agg #[.int .i64 c, .int .i64 e])).run Try.prog w = .ok (a == c && b == e) w := by
  obtain ⟨i0, hi0, _, hsz, _⟩ := info_parts info3
  rw [show (10000 : Nat) = 9998 + 1 + 1 from rfl, run_equalIn_array w (9998 + 1) _ _ Try.underlying56 hi0]
  have hc : Try.prog.cellsOf 3 = 1 := by kernel_rfl
  have p1 := part2 a b w
  have p2 := part2 c e w
  have k1 : (Op.equalIn 9999 3 (.int .i64 a) (.int .i64 c)).run Try.prog w = .ok (a == c) w := run_equalIn_int (P := Try.prog) w 9998 3 .i64 .i64 a c Try.underlying3
  have k2 : (Op.equalIn 9999 3 (.int .i64 b) (.int .i64 e)).run Try.prog w = .ok (b == e) w := run_equalIn_int (P := Try.prog) w 9998 3 .i64 .i64 b e Try.underlying3
  rw [show List.range 2 = [0, 1] from rfl, show (9998 + 1 : Nat) = 9999 from rfl, hc]
  cases h1 : (a == c)
  · rw [h1] at k1
    simp [Op.eqItems, Sem.run_bind, p1.1, p2.1, k1]
  · rw [h1] at k1
    cases h2 : (b == e)
    · rw [h2] at k2
      simp [Op.eqItems, Sem.run_bind, p1.1, p1.2, p2.1, p2.2, k1, k2]
    · rw [h2] at k2
      simp [Op.eqItems, Sem.run_bind, p1.1, p1.2, p2.1, p2.2, k1, k2]
theorem field58 (a b c : Int) (w : World) : (Instr.field 58 (.agg #[.int .i64 a, .int .i64 b, .int .i64 c]) 1).run Try.prog w = .ok (.int .i64 c) w ∧ (Instr.field 58 (.agg #[.int .i64 a, .int .i64 b, .int .i64 c]) 0).run Try.prog w = .ok (.agg #[.int .i64 a, .int .i64 b]) w := ⟨by kernel_rfl, by kernel_rfl⟩
theorem kP_head {W : World} {base : Nat} {ok : Nat → Prop} {v : Value} {x : Int × Int} {xs : List (Int × Int)} (h : kP.Q 56 W base ok v (x :: xs)) : ∃ g o c, v = .slice (some ⟨g, o, none⟩) (xs.length + 1) c ∧ W.cell? ⟨g, o, none⟩ = some (.int .i64 x.1) ∧ W.cell? ⟨g, o + 1, none⟩ = some (.int .i64 x.2) := by
  obtain ⟨g, o, c, rfl, _⟩ := Kd.Q_form h (by simp)
  obtain ⟨cs, hc, hM, hcc, _⟩ := Kd.Q_elem h (0, 0) 0 (by omega) (by simp)
  simp only [Int.toNat_zero, List.getD_cons_zero, Nat.zero_mul, Nat.add_zero] at hM hcc
  obtain ⟨c0, c1, rfl, h0, h1⟩ := hM
  have e0 : c0 = [.int .i64 x.1] := h0
  have e1 : c1 = [.int .i64 x.2] := h1
  subst e0; subst e1
  exact ⟨g, o, c, rfl, hcc 0 _ rfl, hcc 1 _ rfl⟩
theorem kP_tail {W : World} {base : Nat} {ok : Nat → Prop} {A : Option Addr} {n c : Nat} {x : Int × Int} {xs : List (Int × Int)} (h : kP.Q 56 W base ok (.slice A n c) (x :: xs)) :
    ∃ A1 c1, (∀ W' : World, (Instr.slice 60 (.slice A n c) (some (.int .i64 1)) none none).run Try.prog W' = .ok (.slice A1 xs.length c1) W') ∧ kP.Q 56 W base ok (.slice A1 xs.length c1) xs := by
  obtain ⟨i0, hi0, _, hsz, _⟩ := info_parts info56
  have hn := (Kd.Q_reads' h).1
  have hcut := cut_from (P := Try.prog) 60 56 .i64 Try.underlying60 hi0 2 hsz A n c 1 (by omega) (by rw [hn, List.length_cons]; omega)
  have hr := Kd.Q_drop (k := 1) h (by simp)
  have hl : n - 1 = xs.length := by rw [hn]; simp
  refine ⟨if c = 1 then A else A.map (·.add (1 * 2)), c - 1, fun W' => ?_, ?_⟩
  · rw [hcut W']
    simp only [show ((1 : Int).toNat) = 1 from rfl, hl]
  · rw [← hl]
    exact hr
structure SA (w W : World) (va vb : Array Value) (MB : Nat) (bs : List (Nat × (Int × Int))) (qv : Value) (Sq : Nat → Prop) (q : List (Int × Int)) (es : List ((Int × Int) × ((Int × Int) × Int))) : Prop where
  hb : Below w.heap.size w W
  ha : W.heap[w.heap.size]? = some (.cells va 24 (0, 0))
  hbb : W.heap[w.heap.size + 1]? = some (.cells vb 24 (0, 0))
  hM : MapIs W MB encP encY domP es
  hMB : w.heap.size ≤ MB
  hQ : kP.Q 56 W w.heap.size Sq qv q
  hbs : ∀ p ∈ bs, W.heap[p.1]? = some (.cells #[.int .i64 p.2.1, .int .i64 p.2.2] 56 (0, 0)) ∧ ¬ Sq p.1 ∧ w.heap.size ≤ p.1
section
variable {w W W1 : World} {va vb : Array Value} {MB : Nat} {bs bs1 : List (Nat × (Int × Int))} {qv qv1 : Value} {Sq Sq1 : Nat → Prop} {q q1 : List (Int × Int)} {es es1 : List ((Int × Int) × ((Int × Int) × Int))}
theorem SA.below (h : SA w W va vb MB bs qv Sq q es) (hb : Below W.heap.size W W1) : SA w W1 va vb MB bs qv Sq q es :=
  ⟨below_then h.hb h.hb.size hb, blk_below h.ha hb, blk_below h.hbb hb, h.hM.below hb, h.hMB, Kd.Q_below h.hQ hb, fun p hp => ⟨blk_below (h.hbs p hp).1 hb, (h.hbs p hp).2⟩⟩
theorem SA.bound2 (h : SA w W va vb MB bs qv Sq q es) : ∃ Sq1 : Nat → Prop, Aside0 (SA w W va vb MB bs qv Sq1 q es) ∧ Aside0 (∀ k, Sq1 k → k < W.heap.size) ∧ Aside0 (∀ k, Sq1 k → Sq k) :=
  ⟨_, ⟨⟨h.hb, h.ha, h.hbb, h.hM, h.hMB, Kd.Q_mono (Kd.Q_bound h.hQ) (fun k hk => (⟨hk.1, hk.2.2.1⟩ : Sq k ∧ k < W.heap.size)), fun p hp => ⟨(h.hbs p hp).1, fun hk => (h.hbs p hp).2.1 hk.1, (h.hbs p hp).2.2⟩⟩⟩, ⟨fun k hk => hk.2⟩, ⟨fun k hk => hk.1⟩⟩
theorem SA.cons (h : SA w W va vb MB bs qv Sq q es) {b : Nat} {x : Int × Int} (hx : W.heap[b]? = some (.cells #[.int .i64 x.1, .int .i64 x.2] 56 (0, 0))) (hS : ¬ Sq b) (hb : w.heap.size ≤ b) : SA w W va vb MB ((b, x) :: bs) qv Sq q es :=
  ⟨h.hb, h.ha, h.hbb, h.hM, h.hMB, h.hQ, fun p hp => by
    rcases List.mem_cons.1 hp with rfl | hp
    · exact ⟨hx, hS, hb⟩
    · exact h.hbs p hp⟩
theorem SA.less (h : SA w W va vb MB bs qv Sq q es) (hs : ∀ p ∈ bs1, p ∈ bs) : SA w W va vb MB bs1 qv Sq q es := ⟨h.hb, h.ha, h.hbb, h.hM, h.hMB, h.hQ, fun p hp => h.hbs p (hs p hp)⟩
theorem SA.other {xb : Nat} {cells : Array Value} {T : TypeId} (h : SA w W va vb MB bs qv Sq q es) (hx : W.heap[xb]? = some (.cells cells T (0, 0))) (hT : T ≠ 24) (hb : w.heap.size ≤ xb) (h1 : ¬ Sq xb) (h2 : ∀ p ∈ bs, p.1 ≠ xb) (hg : W.grownBy W1 (some xb)) : SA w W1 va vb MB bs qv Sq q es :=
  ⟨pw_below_grown h.hb _ h.hb.size hg (fun k hk => by cases hk; exact hb), blk_grown h.ha hg (fun e => by injection e with e; exact blk_ne h.ha hx (Ne.symm hT) e), blk_grown h.hbb hg (fun e => by injection e with e; exact blk_ne h.hbb hx (Ne.symm hT) e),
    h.hM.grown hg (fun e => by injection e with e; exact h.hM.ne_row hx e.symm), h.hMB, Kd.Q_grown h.hQ hg (fun k hk e => by injection e with e; exact h1 (e ▸ hk)), fun p hp => ⟨blk_grown (h.hbs p hp).1 hg (fun e => by injection e with e; exact h2 p hp e), (h.hbs p hp).2⟩⟩
theorem grown2 (W : World) (b : Nat) (u v : Value) : W.grownBy ((W.setCell ⟨b, 0, none⟩ u).setCell ⟨b, 1, none⟩ v) (some b) := grown_trans (grown_setCell W ⟨b, 0, none⟩ u) (grown_setCell _ ⟨b, 1, none⟩ v)
theorem SA.put2 {yb : Nat} {a0 b0 : Value} (h : SA w W va vb MB bs qv Sq q es) (hx : W.heap[yb]? = some (.cells #[a0, b0] 56 (0, 0))) (hb : w.heap.size ≤ yb) (h1 : ¬ Sq yb) (h2 : ∀ p ∈ bs, p.1 ≠ yb) (y : Int × Int) :
    SA w ((W.setCell ⟨yb, 0, none⟩ (.int .i64 y.1)).setCell ⟨yb, 1, none⟩ (.int .i64 y.2)) va vb MB ((yb, y) :: bs) qv Sq q es :=
  (h.other hx (by decide) hb h1 h2 (grown2 W yb _ _)).cons (blk_set (blk_set hx 0 _) 1 _) h1 hb
theorem SA.cell (h : SA w W va vb MB bs qv Sq q es) {b : Nat} {x : Int × Int} (hp : (b, x) ∈ bs) : (W.cell? ⟨b, 0, none⟩ = some (.int .i64 x.1) ∧ W.cell? ⟨b, 1, none⟩ = some (.int .i64 x.2)) ∧ W.frozen? ⟨b, 0, none⟩ = false ∧ W.frozen? ⟨b, 1, none⟩ = false :=
  ⟨⟨(blk_cell (h.hbs _ hp).1 0).trans rfl, (blk_cell (h.hbs _ hp).1 1).trans rfl⟩, blk_frozen (h.hbs _ hp).1 0, blk_frozen (h.hbs _ hp).1 1⟩
theorem SA.map (h : SA w W va vb MB bs qv Sq q es) (hm : MapIs W1 MB encP encY domP es1) (hg : W.grownBy W1 (some MB)) : SA w W1 va vb MB bs qv Sq q es1 := by
  have hne : ∀ {b : Nat} {cs : Array Value} {T : TypeId}, W.heap[b]? = some (.cells cs T (0, 0)) → some b ≠ some MB := fun hb e => by injection e with e; exact h.hM.ne_row hb e
  exact ⟨pw_below_grown h.hb _ h.hb.size hg (fun k hk => by cases hk; exact h.hMB), blk_grown h.ha hg (hne h.ha), blk_grown h.hbb hg (hne h.hbb), hm, h.hMB,
    Kd.Q_mono (Kd.Q_grown (Kd.Q_bound h.hQ) hg (fun k hk => by obtain ⟨_, _, _, _, _, cells, hc⟩ := hk; exact hne hc)) (fun k hk => hk.1), fun p hp => ⟨blk_grown (h.hbs p hp).1 hg (hne (h.hbs p hp).1), (h.hbs p hp).2⟩⟩
theorem SA.tail (h : SA w W va vb MB bs qv Sq q es) (hq : kP.Q 56 W w.heap.size Sq qv1 q1) : SA w W va vb MB bs qv1 Sq q1 es := ⟨h.hb, h.ha, h.hbb, h.hM, h.hMB, hq, h.hbs⟩
theorem SA.appQ (h : SA w W va vb MB bs qv Sq q es) (hq : kP.Q 56 W1 w.heap.size (fun k => Sq k ∨ W.heap.size ≤ k) qv1 q1) (hg : W.grownBy W1 qv.ownBlock) : SA w W1 va vb MB bs qv1 (fun k => Sq k ∨ W.heap.size ≤ k) q1 es := by
  have hty : ∀ k, qv.ownBlock = some k → ∃ cells, W.heap[k]? = some (.cells cells 56 (0, 0)) := Kd.Q_typed h.hQ
  refine ⟨pw_below_grown h.hb _ h.hb.size hg (Kd.Q_base h.hQ), blk_grown h.ha hg (fun e => ?_), blk_grown h.hbb hg (fun e => ?_), h.hM.grown hg (fun e => ?_), h.hMB, hq, fun p hp => ⟨blk_grown (h.hbs p hp).1 hg (fun e => (h.hbs p hp).2.1 (h.hQ.1 _ e.symm)), fun hk => ?_, (h.hbs p hp).2.2⟩⟩
  · obtain ⟨cells, hc⟩ := hty _ e.symm
    exact blk_ne h.ha hc (by decide) rfl
  · obtain ⟨cells, hc⟩ := hty _ e.symm
    exact blk_ne h.hbb hc (by decide) rfl
  · obtain ⟨cells, hc⟩ := hty _ e.symm
    exact h.hM.ne_row hc rfl
  · rcases hk with hk | hk
    · exact (h.hbs p hp).2.1 hk
    · have := (Array.getElem?_eq_some_iff.1 (h.hbs p hp).1).1
      omega
theorem SA.held {a b c d e f : Value} {xb : Nat} {x : Int × Int} (h : SA w W #[a, b, c] #[d, e, f] MB bs qv Sq q es) (hp : (xb, x) ∈ bs) :
    ((W.cell? ⟨w.heap.size, 0, none⟩ = some a ∧ W.cell? ⟨w.heap.size, 1, none⟩ = some b ∧ W.cell? ⟨w.heap.size, 2, none⟩ = some c) ∧ (W.cell? ⟨w.heap.size + 1, 0, none⟩ = some d ∧ W.cell? ⟨w.heap.size + 1, 1, none⟩ = some e ∧ W.cell? ⟨w.heap.size + 1, 2, none⟩ = some f)) ∧
    (W.cell? ⟨xb, 0, none⟩ = some (.int .i64 x.1) ∧ W.cell? ⟨xb, 1, none⟩ = some (.int .i64 x.2)) :=
  ⟨⟨box_cells h.ha, box_cells h.hbb⟩, (h.cell hp).1⟩
theorem SA.row {S : Nat → Prop} {v : Value} {xs : List Int} (h : SA w W va vb MB bs qv Sq q es) (hr : Kd.R (Kd.int .i64) 3 W w.heap.size S v xs) (hg : W.grownBy W1 v.ownBlock) : SA w W1 va vb MB bs qv Sq q es := by
  have hty : ∀ k, v.ownBlock = some k → ∃ cells, W.heap[k]? = some (.cells cells 3 (0, 0)) := fun k hk => Kd.R_typed hr k hk
  have hne : ∀ {b : Nat} {cs : Array Value} {T : TypeId}, W.heap[b]? = some (.cells cs T (0, 0)) → T ≠ 3 → some b ≠ v.ownBlock := fun hb hT e => by
    obtain ⟨cells, hc⟩ := hty _ e.symm
    exact blk_ne hb hc hT rfl
  refine ⟨pw_below_grown h.hb _ h.hb.size hg (Kd.R_base hr), blk_grown h.ha hg (hne h.ha (by decide)), blk_grown h.hbb hg (hne h.hbb (by decide)), h.hM.grown hg (fun e => ?_), h.hMB, ?_, fun p hp => ⟨blk_grown (h.hbs p hp).1 hg (hne (h.hbs p hp).1 (by decide)), (h.hbs p hp).2⟩⟩
  · obtain ⟨cells, hc⟩ := hty _ e.symm
    exact h.hM.ne_row hc rfl
  · exact Kd.Q_mono (Kd.Q_grown (Kd.Q_bound h.hQ) hg (fun k hk => by
      obtain ⟨_, _, _, t, ht, cells, hc⟩ := hk
      refine hne hc ?_
      have : t = 56 := by simpa [kP, Kd.pair, Kd.int, Kd.scalar] using ht
      rw [this]; decide)) (fun k hk => hk.1)
end
end Go.Proofs.Ytmphigeefppfpaa.H
namespace Go.Proofs.Ytmphigeefppfpaa.H
open Go.RowKit Go.Proofs.YtmphigeefppfpaaW.PrintWords Go.Proofs.YtmphigeefppfpaaW.PrintLast Go.Proofs.YtmphigeefppfpaaW.PrintMore
set_option linter.unusedVariables false
theorem spec_domB {n : Nat} {sa sb : Int} {la lb : List (List Int)} (ha : specOk n sa la = true) (hb : specOk n sb lb = true) : domB la lb (sa, sb) := ⟨(spec_table ha).2.1, (spec_table hb).2.1⟩
end Go.Proofs.Ytmphigeefppfpaa.H
namespace Go.Proofs.Ytmphigeefppfpaa.H
open Go.RowKit Go.Proofs.YtmphigeefppfpaaW.PrintWords Go.Proofs.YtmphigeefppfpaaW.PrintLast Go.Proofs.YtmphigeefppfpaaW.PrintMore
set_option linter.unusedVariables false
theorem ents_snoc (L : List PT) (t : PT) : ents (L ++ [t]) = ents L ++ [(t.p, (t.par, t.ev))] := by simp [ents]
theorem mput_ents {L : List PT} {t : PT} (h : t.p ∉ L.map (·.p)) : mput t.p (t.par, t.ev) (ents L) = ents (L ++ [t]) := by
  rw [mput_new (by rw [ents_keys]; exact h), ents_snoc]
theorem ne_boxes {a b m k : Nat} (ha : a < m) (hb : b < m) (hk : m ≤ k) (x y : Int × Int) : ∀ p ∈ [(a, x), (b, y)], p.1 ≠ k := fun p hp => by
  simp only [List.mem_cons, List.not_mem_nil, or_false] at hp
  rcases hp with rfl | rfl
  · show a ≠ k; omega
  · show b ≠ k; omega
set_option maxHeartbeats 8000000 in
set_option maxRecDepth 100000 in
theorem sapart_calls (ea sa : Int) (A : Option Addr) (ca : Nat) (la : List (List Int)) (eb sb : Int) (B : Option Addr) (cb : Nat) (lb : List (List Int)) (w : World)
    (hra : Kd.C (Kd.slice 3 (Kd.int .i64)) w A la.length la) (hca : la.length ≤ ca) (hrb : Kd.C (Kd.slice 3 (Kd.int .i64)) w B lb.length lb) (hcb : lb.length ≤ cb) :
    Calls Try.prog 23 #[.agg #[.int .i64 ea, .int .i64 sa, .slice A la.length ca], .agg #[.int .i64 eb, .int .i64 sb, .slice B lb.length cb]] w (ApEnd (apVal ea sa la eb sb lb) (pairVal ea sa la eb sb lb) w) := by
  have H1 := Aside0.mk fun W (hW : Below w.heap.size w W) => pair_calls ea sa A ca la eb sb B cb lb W (Kd.C_below hra hW) (Kd.C_below hrb hW)
  have HA := Aside0.mk hra
  have HB := Aside0.mk hrb
  clear hra hrb
  by_cases hp : pairVal ea sa la eb sb lb = 0
  · obtain ⟨hsa, hsb, rfl⟩ := pairVal_zero hp
    have HV := Aside0.mk (show apVal ea sa la ea sb lb = apAns la lb ea.toNat (sa, sb) (pairs la lb) from if_pos hp)
    rw [hp] at H1 ⊢
    obtain ⟨_, _, he0, he1, _, hla⟩ := spec_table hsa
    obtain ⟨_, _, _, _, _, hlb⟩ := spec_table hsb
    obtain ⟨n, rfl⟩ : ∃ n : Nat, ea = (n : Int) := ⟨ea.toNat, by omega⟩
    rw [Int.toNat_natCast] at HV
    have hn : n ≤ 16 := by omega
    have hple := pairs_le hsa hsb
    have HLE := Aside0.mk (apTo_le hsa hsb (spec_domB hsa hsb))
    have HDM := Aside0.mk (apTo_dom hsa hsb (spec_domB hsa hsb))
    have HSTP := Aside0.mk fun (p : Int × Int) (e : Nat) (hp : domQ la lb p) (he : (e : Int) < n) => stp_dom hsa hsb hp he
    have HWF := Aside0.mk (show ∀ p : Int × Int, domQ la lb p → domP p from fun p hp => ⟨wf_small' hp.1.1 (by have := hp.1.2; omega), wf_small' hp.2.1 (by have := hp.2.2; omega)⟩)
    have HD0 := Aside0.mk (spec_domB hsa hsb)
    have HRD := Aside0.mk fun (x : PT) (l : List PT) (hl : ∀ t ∈ l, domB la lb t.p) (hx : domB la lb x.p) (e : Nat) (he : (e : Int) ≤ n) => apRow_dom hsa hsb hl hx e he
    have H2 := Aside0.mk fun W (hW : Below w.heap.size w W) (q e : Int) (hq : domN la q) (h0 : 0 ≤ e) (h1 : e < (n : Int)) => next_calls hsa hq h0 h1 A ca W (Kd.C_below HA.out hW) hca
    have H3 := Aside0.mk fun W (hW : Below w.heap.size w W) (q e : Int) (hq : domN lb q) (h0 : 0 ≤ e) (h1 : e < (n : Int)) => next_calls hsb hq h0 h1 B cb W (Kd.C_below HB.out hW) hcb
    generalize hN : pairs la lb = N at *
    generalize hAV : apVal n sa la n sb lb = av at *
    clear hp hsa hsb hla hlb hN he0 he1 hAV
    have hmm := @run_makeMap Try.prog
    go_enter Try.func23, Try.ntmps23
    go_upto_region 1 with (fail)
    have HS := two3_begin w #[.int .i64 n, .int .i64 sa, .slice A la.length ca] #[.int .i64 n, .int .i64 sb, .slice B lb.length cb]
    generalize ((w.alloc (.cells #[.int .i64 n, .int .i64 sa, .slice A la.length ca] 24)).alloc (.cells #[.int .i64 n, .int .i64 sb, .slice B lb.length cb] 24)) = w0 at *
    obtain ⟨⟨hc0, hc1, hc2⟩, hd0, hd1, hd2⟩ := two3_held HS
    go_wp2_with fail
    refine (H1.out _ (HS.1).out).mono ?_
    rintro E w1 ⟨rfl, hb⟩
    have HS1 := two3_keep hb HS
    clear hb HS hc0 hc1 hc2 hd0 hd1 hd2 H1
    obtain ⟨⟨hc0, hc1, hc2⟩, hd0, hd1, hd2⟩ := two3_held HS1
    go_upto_region 5 with (fail)
    have hB2 := below_alloc (Below.refl w1.heap.size w1) (.cells #[.int .i64 sa, .int .i64 sb] 56)
    have HS2 := two3_keep hB2 HS1
    have HX2 := Aside0.mk (blk_new w1 (.cells #[.int .i64 sa, .int .i64 sb] 56))
    have HU2 := Aside0.mk ((HS1.1).out).size
    clear HS1 hB2 hc0 hc1 hc2 hd0 hd1 hd2
    generalize (w1.alloc (.cells #[.int .i64 sa, .int .i64 sb] 56)) = w2 at *
    generalize w1.heap.size = sk at *
    obtain ⟨wm, hrun, HM0, hgm⟩ := MapIs.put (mapIs_new w2 encP encY domP) keyPair Try.underlying59 (HWF.out _ (HD0.out).q) ((0, 0), 0)
    have hrun' : (Instr.mapUpdate 59 (.map (some w2.heap.size)) (.agg #[.int .i64 sa, .int .i64 sb]) (.agg #[.int .i64 0, .int .i64 0, .int .i64 0])).run Try.prog (w2.alloc (.map #[] 0)) = .ok () wm := hrun
    clear hrun
    have hBm := below_alloc (Below.refl w2.heap.size w2) (.map #[] 0)
    have HS3 := two3_keep hBm HS2
    have hX3 := blk_below HX2.out hBm
    have hne : ∀ {b : Nat} {cs : Array Value} {T : TypeId}, (w2.alloc (.map #[] 0)).heap[b]? = some (.cells cs T (0, 0)) → some b ≠ some w2.heap.size := fun hb e => by injection e with e; exact MapIs.ne_row (mapIs_new w2 encP encY domP) hb e
    have HX4 := Aside0.mk (blk_grown hX3 hgm (hne hX3))
    have HA4 := Aside0.mk (blk_grown (HS3.2.1).out hgm (hne (HS3.2.1).out))
    have HB4 := Aside0.mk (blk_grown (HS3.2.2).out hgm (hne (HS3.2.2).out))
    have HW4 := Aside0.mk (pw_below_grown (HS3.1).out _ ((HS3.1).out).size hgm (fun k hk => by cases hk; exact ((HS2.1).out).size))
    have HMB := Aside0.mk ((HS2.1).out).size
    have HM0 := Aside0.mk HM0
    have hm0 : (w2.alloc (.map #[] 0)).cell? ⟨sk, 0, none⟩ = some (.int .i64 sa) := (blk_cell hX3 0).trans rfl
    have hm1 : (w2.alloc (.map #[] 0)).cell? ⟨sk, 1, none⟩ = some (.int .i64 sb) := (blk_cell hX3 1).trans rfl
    have hx0 : wm.cell? ⟨sk, 0, none⟩ = some (.int .i64 sa) := (blk_cell HX4.out 0).trans rfl
    have hx1 : wm.cell? ⟨sk, 1, none⟩ = some (.int .i64 sb) := (blk_cell HX4.out 1).trans rfl
    clear HX2 hX3 hBm hgm hne HS2 HS3
    go_upto_region 7 with (fail)
    generalize w2.heap.size = MB at *
    have HSA := Aside0.mk (SA.cons (SA.mk (w := w) (W := wm.alloc (.cells #[.int .i64 sa, .int .i64 sb] 56)) (va := #[.int .i64 n, .int .i64 sa, .slice A la.length ca]) (vb := #[.int .i64 n, .int .i64 sb, .slice B lb.length cb]) (MB := MB) (bs := []) (qv := .slice (some ⟨wm.heap.size, 0, none⟩) 1 1) (Sq := fun k => k = wm.heap.size) (q := [(sa, sb)]) (es := [((sa, sb), ((0, 0), 0))])
      (below_alloc HW4.out _) (blk_alloc HA4.out _) (blk_alloc HB4.out _) (HM0.out.below (below_alloc (Below.refl _ _) _)) HMB.out (Kd.Q_of_R (R_new1P wm (sa, sb) w.heap.size (HW4.out).size)) (fun p hp => absurd hp List.not_mem_nil)) (b := sk) (x := (sa, sb)) (blk_alloc HX4.out _) (fun h => by have := (Array.getElem?_eq_some_iff.1 HX4.out).1; omega) HU2.out)
    clear HW4 HA4 HB4 HM0 HX4 hm0 hm1 hx0 hx1 hrun' HMB HU2
    generalize (wm.alloc (.cells #[.int .i64 sa, .int .i64 sb] 56)) = w4 at *
    generalize (fun k => k = wm.heap.size) = Sq0 at *
    generalize wm.heap.size = qb at *
    go_loopg [10] N (fun gg v10 wi => ∃ (i : Nat) (Sq : Nat → Prop), i ≤ N ∧ N - i ≤ gg ∧ Aside0 (apAns la lb n (sa, sb) i = none) ∧
      Aside0 (SA w wi #[.int .i64 n, .int .i64 sa, .slice A la.length ca] #[.int .i64 n, .int .i64 sb, .slice B lb.length cb] MB [(sk, (sa, sb))] v10 Sq (((apTo la lb n (sa, sb) i).drop i).map (·.p)) (ents (apTo la lb n (sa, sb) i))))
    case atStart => exact ⟨0, _, by omega, by omega, ⟨rfl⟩, HSA⟩
    case round =>
      clear HSA
      obtain ⟨i, Sq, him, hgg, HNO, HSA⟩ := hrel
      have hsz := HLE.out i
      by_cases hlt : i < (apTo la lb n (sa, sb) i).length
      · have HXI := Aside0.mk (List.getElem?_eq_getElem hlt)
        have HST := Aside0.mk (apTo_step HXI.out)
        have HFD := Aside0.mk fun (wd : List Int) (h : rowAns la lb (apTo la lb n (sa, sb) i)[i] n = some wd) => apAns_found HNO.out HXI.out h
        have HNX := Aside0.mk fun (h : rowAns la lb (apTo la lb n (sa, sb) i)[i] n = none) => apAns_next HNO.out HXI.out h
        have HXD := Aside0.mk (HDM.out i _ (List.getElem_mem hlt))
        have HLD := Aside0.mk (HDM.out i)
        have HQM := Aside0.mk (HLE.out (i + 1))
        have HXM := Aside0.mk (List.getElem_mem hlt)
        have HCH := Aside0.mk (apTo_chain (la := la) (lb := lb) (n := n) (s := (sa, sb)) i)
        have HWDL := Aside0.mk (apTo_wd (la := la) (lb := lb) (n := n) (s := (sa, sb)) i)
        rw [HST.out] at HQM
        have him2 : i + 1 ≤ N := by omega
        rw [List.drop_eq_getElem_cons hlt, List.map_cons] at HSA
        generalize (apTo la lb n (sa, sb) i)[i] = x at *
        generalize apTo la lb n (sa, sb) i = l at *
        obtain ⟨qg, qo, qc, rfl, hq0, hq1⟩ := kP_head (HSA.out).hQ
        obtain ⟨A1, c1, hcut, hq2⟩ := kP_tail (HSA.out).hQ
        have HS1 := Aside0.mk ((HSA.out).tail hq2)
        clear hq2 HSA
        generalize hql : (List.map (fun x => x.p) (List.drop (i + 1) l)).length = ql at *
        have HQL := Aside0.mk hql
        clear hql
        have hgt : (0 : Int) < (ql : Int) + 1 := by omega
        go_upto_region 10 with (fail)
        obtain ⟨Sq1, HS2, HSS, HSQ⟩ := (HS1.out).bound2
        clear HSQ
        have HS3 := Aside0.mk (((HS2.out).below (below_alloc (Below.refl wr.heap.size wr) (.cells #[.int .i64 x.p.1, .int .i64 x.p.2] 56))).cons (b := wr.heap.size) (x := x.p) (blk_new wr _) (fun h => Nat.lt_irrefl _ (HSS.out _ h)) ((HS2.out).hb).size)
        have HXS := Aside0.mk (show sk ≠ wr.heap.size from fun e => by have := (Array.getElem?_eq_some_iff.1 ((HS2.out).hbs _ List.mem_cons_self).1).1; omega)
        clear HS1 HS2 HSS hcut hq0 hq1 hgt
        generalize (wr.alloc (.cells #[.int .i64 x.p.1, .int .i64 x.p.2] 56)) = w5 at *
        generalize wr.heap.size = xb at *
        obtain ⟨hc0, hc1, hc2⟩ := box_cells (HS3.out).ha
        go_wp2
        clear hc0 hc1 hc2
        go_loopg [10, 44] n (fun gk v10 v44 wi => ∃ (e : Nat) (Sq : Nat → Prop), e ≤ n ∧ n - e ≤ gk ∧ v44 = .int .i64 e ∧ Aside0 (rowAns la lb x e = none) ∧
          Aside0 (SA w wi #[.int .i64 n, .int .i64 sa, .slice A la.length ca] #[.int .i64 n, .int .i64 sb, .slice B lb.length cb] MB [(xb, x.p), (sk, (sa, sb))] v10 Sq (((apRow la lb x l e).drop (i + 1)).map (·.p)) (ents (apRow la lb x l e))))
        case atStart => exact ⟨0, _, by omega, by omega, rfl, ⟨rfl⟩, HS3⟩
        case round =>
          clear HS3 Sq1
          obtain ⟨e, Sq, hen, hgk, rfl, HRN, HSA⟩ := hrel
          by_cases hle : e < n
          · have hlez : (e : Int) < (n : Int) := by omega
            have HRS := Aside0.mk (show apRow la lb x l (e + 1) = if oneB (stp la lb x.p e) || seenB (stp la lb x.p e) (apRow la lb x l e) then apRow la lb x l e else apRow la lb x l e ++ [⟨stp la lb x.p e, x.wd ++ [(e : Int)], x.p, e⟩] from rfl)
            have hql2 := Nat.le_trans (apRow_mono (la := la) (lb := lb) (x := x) (l := l) (e := e) (e' := n) (by omega)) HQM.out
            have HF1 := Aside0.mk fun h => rowAns_found HRN.out (h : oneB (stp la lb x.p e) = true) (n - (e + 1))
            rw [show e + 1 + (n - (e + 1)) = n from by omega] at HF1
            have HN1 := Aside0.mk fun h => rowAns_next HRN.out (h : oneB (stp la lb x.p e) = false)
            have HYD := Aside0.mk (HSTP.out x.p e (HXD.out).q hlez)
            have HC2 := Aside0.mk (apRow_chain (la := la) (lb := lb) (e := e) HCH.out HXM.out)
            have HQD := Aside0.mk (HRD.out x l HLD.out HXD.out e (by omega))
            have hix : i + 1 ≤ (apRow la lb x l e).length := by
              obtain ⟨r, hr⟩ := apRow_pre (la := la) (lb := lb) (x := x) (l := l) (e := e)
              rw [hr, List.length_append]; omega
            have HXM2 := Aside0.mk (show x ∈ apRow la lb x l e from by
              obtain ⟨r, hr⟩ := apRow_pre (la := la) (lb := lb) (x := x) (l := l) (e := e)
              rw [hr]; exact List.mem_append_left _ HXM.out)
            have HWD2 := Aside0.mk (apRow_wd (la := la) (lb := lb) (e := e) (m := i + 1) (fun t ht => Nat.le_succ_of_le (HWDL.out t ht)) (Nat.lt_succ_of_le (HWDL.out x HXM.out)))
            generalize apRow la lb x l e = qe at *
            obtain ⟨A10, c10, e10, _⟩ := Kd.Q_slice (HSA.out).hQ
            subst e10
            have hq3 : (List.map (fun x => x.p) (List.drop (i + 1) qe)).length ≤ N := by simp; omega
            generalize hqn : (List.map (fun x => x.p) (List.drop (i + 1) qe)).length = qn at *
            have HQN2 := Aside0.mk hqn
            clear hqn
            have H2c := Aside0.mk fun W (hW : Below w.heap.size w W) => H2.out W hW x.p.1 e (HXD.out).q.1 (by omega) (by omega)
            have H3c := Aside0.mk fun W (hW : Below w.heap.size w W) => H3.out W hW x.p.2 e (HXD.out).q.2 (by omega) (by omega)
            unfold stp at HRS HF1 HN1 HYD
            generalize nextB la x.p.1 e = y1 at *
            generalize nextB lb x.p.2 e = y2 at *
            go_upto_region 13 with (fail)
            go_cut [13] from 47 to 57 (fun s13 wx => ∃ (yb : Nat) (Sq : Nat → Prop), s13 = .pointer (some ⟨yb, 0, none⟩) ∧ Aside0 (yb ≠ xb ∧ yb ≠ sk) ∧
              Aside0 (SA w wx #[.int .i64 n, .int .i64 sa, .slice A la.length ca] #[.int .i64 n, .int .i64 sb, .slice B lb.length cb] MB [(yb, (y1, y2)), (xb, x.p), (sk, (sa, sb))] (.slice A10 qn c10) Sq ((qe.drop (i + 1)).map (·.p)) (ents qe)))
            case first =>
              obtain ⟨Sq1, HB0, HSS, HSQ⟩ := (HSA.out).bound2
              have HBS := Aside0.mk ((HB0.out).hb).size
              have hltx : xb < wr.heap.size := (Array.getElem?_eq_some_iff.1 ((HB0.out).hbs _ List.mem_cons_self).1).1
              have hltk : sk < wr.heap.size := (Array.getElem?_eq_some_iff.1 ((HB0.out).hbs (sk, (sa, sb)) (by simp)).1).1
              clear HSA HSQ
              generalize hw0 : wr = w0 at *
              have HP0 := (HB0.out).below (W1 := w0.drew) (below_drew (Below.refl _ _))
              go_region_held3 (fun w' => ((w'.cell? ⟨w.heap.size, 0, none⟩ = some (.int .i64 n) ∧ w'.cell? ⟨w.heap.size, 1, none⟩ = some (.int .i64 sa) ∧ w'.cell? ⟨w.heap.size, 2, none⟩ = some (.slice A la.length ca)) ∧ (w'.cell? ⟨w.heap.size + 1, 0, none⟩ = some (.int .i64 n) ∧ w'.cell? ⟨w.heap.size + 1, 1, none⟩ = some (.int .i64 sb) ∧ w'.cell? ⟨w.heap.size + 1, 2, none⟩ = some (.slice B lb.length cb))) ∧
                  (w'.cell? ⟨xb, 0, none⟩ = some (.int .i64 x.p.1) ∧ w'.cell? ⟨xb, 1, none⟩ = some (.int .i64 x.p.2)))
                (first | exact HP0.held List.mem_cons_self | exact HP1.held List.mem_cons_self | exact HP2.held List.mem_cons_self | exact SA.held (HP2.put2 HN2 HU HT HZ (y1, y2)) mem1 | exact SA.held (SA.below HB0.out (below_drew (below_alloc (Below.refl w0.heap.size w0) (.cells #[.int .i64 0, .int .i64 0] 56)))) List.mem_cons_self | exact SA.held (SA.below HP1 (below_alloc (Below.refl _ _) _)) List.mem_cons_self | exact SA.held (SA.below HP2 (below_alloc (Below.refl _ _) _)) List.mem_cons_self | fail)
                (first
                  | (go_at_call 44; (first | (with_reducible refine (H2c.out _ HP0.hb).mono ?_) | (have HN : ((w0.alloc (.cells #[.int .i64 0, .int .i64 0] 56)).drew).heap[w0.heap.size]? = some (.cells #[.int .i64 0, .int .i64 0] 56 (0, 0)) := blk_drew (blk_new w0 _); have HT : ¬ Sq1 w0.heap.size := (fun h => Nat.lt_irrefl _ (HSS.out _ h)); have HU := HBS.out; have HZ := ne_boxes hltx hltk (Nat.le_refl w0.heap.size) x.p (sa, sb); have HP0 := (HB0.out).below (below_drew (below_alloc (Below.refl w0.heap.size w0) (.cells #[.int .i64 0, .int .i64 0] 56))); with_reducible refine (H2c.out _ HP0.hb).mono ?_)); rintro E w4 ⟨rfl, hb⟩; have HV : w0.heap.size ≤ w4.heap.size := (Nat.le_trans (by simp) hb.size); have HP1 := HP0.below hb; (try have HN1 := blk_below HN hb); clear hb; (try clear HN); clear HP0)
                  | (go_at_call 44; (first | (with_reducible refine (H3c.out _ HP1.hb).mono ?_) | (have HN1 : (w4.alloc (.cells #[.int .i64 0, .int .i64 0] 56)).heap[w4.heap.size]? = some (.cells #[.int .i64 0, .int .i64 0] 56 (0, 0)) := blk_new w4 _; have HT : ¬ Sq1 w4.heap.size := (fun h => Nat.not_lt.2 HV (HSS.out _ h)); have HU := Nat.le_trans HBS.out HV; have HZ := ne_boxes hltx hltk HV x.p (sa, sb); have HP1 := HP1.below (below_alloc (Below.refl _ _) (.cells #[.int .i64 0, .int .i64 0] 56)); with_reducible refine (H3c.out _ HP1.hb).mono ?_)); rintro E w5 ⟨rfl, hb⟩; have HV2 : w0.heap.size ≤ w5.heap.size := (Nat.le_trans HV (Nat.le_trans (by simp) hb.size)); have HP2 := HP1.below hb; (try have HN2 := blk_below HN1 hb); clear hb; (try clear HN1); clear HP1; (try (have hk0 := (blk_cell HN2 0).trans rfl; have hk1 := (blk_cell HN2 1).trans rfl; have hf0 := blk_frozen HN2 0; have hf1 := blk_frozen HN2 1)))
                  | fail)
              · go_wp2_with fail
                go_meet
                exact ⟨_, Sq1, rfl, ⟨by omega, by omega⟩, ⟨((HP2.below (below_alloc (Below.refl _ _) _)).cons (b := w5.heap.size) (x := (y1, y2)) (blk_new w5 _) (fun h => Nat.not_lt.2 HV2 (HSS.out _ h)) (Nat.le_trans HBS.out HV2))⟩⟩
              · go_wp2_with fail
                go_meet
                exact ⟨_, Sq1, rfl, ⟨by omega, by omega⟩, ⟨HP2.put2 HN2 HU HT HZ (y1, y2)⟩⟩
              · go_wp2_with fail
                go_meet
                exact ⟨_, Sq1, rfl, ⟨by omega, by omega⟩, ⟨HP2.put2 HN2 HU HT HZ (y1, y2)⟩⟩
            case rest =>
              clear HSA H2c H3c Sq
              obtain ⟨yb, Sq, rfl, HYN, HSA⟩ := hcut
              generalize wc = w6 at *
              have hlk := MapIs.look (HSA.out).hM keyPair Try.underlying59 (zero58 w6) (HWF.out _ HYD.out) true
              obtain ⟨⟨hy0, hy1⟩, _⟩ := (HSA.out).cell (b := yb) (x := (y1, y2)) List.mem_cons_self
              have hyb := HYD.out
              have hyr : -1 ≤ y1 ∧ -1 ≤ y2 := ⟨hyb.1.1, hyb.2.1⟩
              cases hone : oneB (y1, y2) with
              | true =>
                have hnk := one_new HQD.out hone
                rw [mget_none.2 (by rw [ents_keys]; exact hnk)] at hlk
                have hl : (Instr.lookup 59 (.map (some MB)) (.agg #[.int .i64 y1, .int .i64 y2]) true).run Try.prog w6 = .ok (.tuple #[.agg #[.int .i64 0, .int .i64 0, .int .i64 0], .bool false]) w6 := hlk
                have hff : (y1 == -1 && y2 == -1) = false := by
                  cases h : (y1 == -1 && y2 == -1) with
                  | false => rfl
                  | true =>
                    rw [Bool.and_eq_true, beq_iff_eq, beq_iff_eq] at h
                    rw [h.1, h.2] at hone
                    exact absurd hone (by decide)
                have heq : ∀ W, (Op.equalIn 10000 56 (.agg #[.int .i64 y1, .int .i64 y2]) (.agg #[.int .i64 (-1), .int .i64 (-1)])).run Try.prog W = .ok false W := fun W => by rw [eq56, hff]
                have HNK := Aside0.mk hnk
                have HW := Aside0.mk (show av = some (x.wd ++ [(e : Int)]) from by
                  rw [HV.out]
                  have := HFD.out _ (HF1.out hone) (N - (i + 1))
                  rwa [show i + 1 + (N - (i + 1)) = N from by omega] at this)
                have HONE := Aside0.mk hone
                have HYR := Aside0.mk hyr
                clear hlk hff hnk hone HN1 HF1 HFD HNX HRS hyb hyr
                go_upto_region 15 with (fail)
                have HS7 := Aside0.mk ((HSA.out).below (below_alloc (Below.refl w6.heap.size w6) (.cells #[.int .i64 0, .int .i64 0, .int .i64 0] 58)))
                clear HSA hl hy0 hy1
                generalize (w6.alloc (.cells #[.int .i64 0, .int .i64 0, .int .i64 0] 58)) = w7 at *
                obtain ⟨⟨hy0, hy1⟩, _⟩ := (HS7.out).cell (b := yb) (x := (y1, y2)) List.mem_cons_self
                obtain ⟨⟨hx0, hx1⟩, _⟩ := (HS7.out).cell (b := xb) (x := x.p) mem1
                obtain ⟨w8, hput, HM8, hg8⟩ := MapIs.put (HS7.out).hM keyPair Try.underlying59 (HWF.out _ HYD.out) (x.p, (e : Int))
                have hput' : (Instr.mapUpdate 59 (.map (some MB)) (.agg #[.int .i64 y1, .int .i64 y2]) (.agg #[.int .i64 x.p.1, .int .i64 x.p.2, .int .i64 (e : Int)])).run Try.prog w7 = .ok () w8 := hput
                have HML := Aside0.mk (mput_ents (L := qe) (t := ⟨(y1, y2), x.wd ++ [(e : Int)], x.p, e⟩) HNK.out)
                rw [HML.out] at HM8
                have HS8 := Aside0.mk ((HS7.out).map HM8 hg8)
                have HCL := Aside0.mk ((HC2.out).snoc2 HXM2.out (y1, y2) e HNK.out)
                clear hput HM8 hg8 HML
                go_upto_region 17 with (fail)
                have HWL := Aside0.mk (show ∀ t ∈ qe ++ [⟨(y1, y2), x.wd ++ [(e : Int)], x.p, e⟩], t.wd.length ≤ i + 1 from fun t ht => by
                  rcases List.mem_append.1 ht with ht | ht
                  · exact HWD2.out t ht
                  · rw [List.mem_singleton.1 ht]
                    have := HWDL.out x HXM.out
                    simp; exact this)
                have HDL := Aside0.mk (show ∀ t ∈ qe ++ [⟨(y1, y2), x.wd ++ [(e : Int)], x.p, e⟩], domP t.p from fun t ht => by
                  rcases List.mem_append.1 ht with ht | ht
                  · exact HWF.out _ (HQD.out t ht).q
                  · rw [List.mem_singleton.1 ht]
                    exact HWF.out _ HYD.out)
                have HTM := Aside0.mk (show (⟨(y1, y2), x.wd ++ [(e : Int)], x.p, e⟩ : PT) ∈ qe ++ [⟨(y1, y2), x.wd ++ [(e : Int)], x.p, e⟩] from List.mem_append_right _ List.mem_cons_self)
                have HT0 := Aside0.mk (show (⟨(y1, y2), x.wd ++ [(e : Int)], x.p, e⟩ : PT).p = (y1, y2) ∧ (⟨(y1, y2), x.wd ++ [(e : Int)], x.p, e⟩ : PT).wd = x.wd ++ [(e : Int)] from ⟨rfl, rfl⟩)
                generalize (⟨(y1, y2), x.wd ++ [(e : Int)], x.p, e⟩ : PT) = T0 at *
                clear hx0 hx1 hy0 hy1 hput' HS7 HNK HSTP HRD H2 H3 HLE HDM HNO HXI HST HXD HLD HQM HXM HCH HWDL HRN HC2 HQD HXM2 HWD2 HA HB HV
                obtain ⟨⟨hy0, hy1⟩, _⟩ := (HS8.out).cell (b := yb) (x := (y1, y2)) List.mem_cons_self
                go_cut [82] from 75 to 82 (fun s82 wx => s82 = .bool true ∧ w8 = wx)
                case first =>
                  have hone := HONE.out
                  by_cases h1 : y1 < 0
                  · have k1 : decide (y1 < 0) = true := by simpa using h1
                    go_wp2
                    go_meet
                    exact ⟨rfl, rfl⟩
                  · have k1 : decide (y1 < 0) = false := by simpa using h1
                    have k2 : decide (y2 < 0) = true := by
                      unfold oneB at hone
                      rw [k1] at hone
                      cases h2 : decide (y2 < 0) with
                      | true => rfl
                      | false => rw [h2] at hone; exact absurd hone (by decide)
                    clear hone h1
                    go_wp2
                    go_meet
                    exact ⟨rfl, rfl⟩
                case rest =>
                  obtain ⟨rfl, rfl⟩ := hcut
                  clear hy0 hy1
                  rw [← (HT0.out).1] at HS8
                  have HTW := Aside0.mk (show T0.wd ++ ([] : List Int).reverse = x.wd ++ [(e : Int)] from by rw [(HT0.out).2]; simp)
                  have hT0 : T0.wd.length ≤ i + 1 := HWL.out _ HTM.out
                  have hTL : (x.wd ++ [(e : Int)]).length ≤ i + 1 := by rw [← (HT0.out).2]; exact hT0
                  generalize x.wd ++ [(e : Int)] = total at *
                  generalize qe ++ [T0] = L at *
                  clear HT0
                  go_wp2
                  go_loopg [16] (i + 1) (fun gg3 v16 wi => ∃ (t : PT) (out : List Int) (S : Nat → Prop), t.wd.length ≤ gg3 ∧ t ∈ L ∧ Aside0 (t.wd ++ out.reverse = total) ∧ Aside0 (Kd.R (Kd.int .i64) 3 wi w.heap.size S v16 out) ∧
                    Aside0 (SA w wi #[.int .i64 n, .int .i64 sa, .slice A la.length ca] #[.int .i64 n, .int .i64 sb, .slice B lb.length cb] MB [(yb, t.p), (xb, x.p), (sk, (sa, sb))] (.slice A10 qn c10) Sq ((qe.drop (i + 1)).map (·.p)) (ents L)))
                  case atStart => exact ⟨T0, [], fun _ => False, hT0, HTM.out, HTW, ⟨Kd.R_nil _ _ _ _ _⟩, HS8⟩
                  case round =>
                    clear HS8 HTW hT0 HTM T0
                    obtain ⟨t, out, S, hgg3, htL, HTT, HR, HSA⟩ := hrel
                    obtain ⟨⟨hy0, hy1⟩, hf0, hf1⟩ := (HSA.out).cell (b := yb) (x := t.p) List.mem_cons_self
                    obtain ⟨⟨hx0, hx1⟩, _⟩ := (HSA.out).cell (b := sk) (x := (sa, sb)) (by simp)
                    obtain ⟨A16, c16, e16⟩ := Kd.R_slice HR.out
                    subst e16
                    have HLT := Aside0.mk (HCL.out.hc t htL)
                    have HMG := Aside0.mk (mget_ents HCL.out.nd htL)
                    have HTD := Aside0.mk (HDL.out t htL)
                    have HRT := Aside0.mk (fun h : t.p = (sa, sb) => nodup_inj (f := PT.p) HCL.out.nd htL HCL.out.hr h)
                    generalize htp : t.p = tp at *
                    obtain ⟨t1, t2⟩ := tp
                    have HTP := Aside0.mk htp
                    clear htp
                    by_cases hst : t1 = sa ∧ t2 = sb
                    · have heq : ∀ W, (Op.equalIn 10000 56 (.agg #[.int .i64 t1, .int .i64 t2]) (.agg #[.int .i64 sa, .int .i64 sb])).run Try.prog W = .ok true W := fun W => by rw [eq56, hst.1, hst.2]; simp
                      have HTE := Aside0.mk (HRT.out (by rw [hst.1, hst.2]))
                      have HOUT := Aside0.mk (show out.reverse = total from by
                        have := HTT.out
                        rw [HTE.out] at this
                        simpa [root] using this)
                      clear hst
                      have hrev := reverse_calls w.heap.size S A16 c16 out wr HR.out
                      unfold RevEnd at hrev
                      have HREV := Aside0.mk hrev
                      clear hrev
                      go_wp2_with fail
                      refine HREV.out.mono ?_
                      rintro E w9 ⟨rfl, hr9, hg9⟩
                      rw [HOUT.out] at hr9
                      have HR9 := Aside0.mk hr9
                      have HL9 := Aside0.mk (show out.length = total.length from by rw [← HOUT.out]; simp)
                      have HB9 := Aside0.mk (pw_below_grown (HSA.out).hb _ ((HSA.out).hb).size hg9 (Kd.R_base HR.out))
                      clear hr9 hg9
                      go_wp2
                      go_ret3
                      rw [HW.out]
                      have hr9 := HR9.out
                      rw [HL9.out] at hr9
                      have hrr := Kd.R_reads' hr9
                      refine ⟨A16, c16, hrr.2.1, ?_, hrr.2.2, HB9.out⟩
                      rw [HL9.out]
                      rfl
                    · have hff : (t1 == sa && t2 == sb) = false := by
                        cases h : (t1 == sa && t2 == sb) with
                        | false => rfl
                        | true =>
                          rw [Bool.and_eq_true, beq_iff_eq, beq_iff_eq] at h
                          exact absurd h hst
                      have heq : ∀ W, (Op.equalIn 10000 56 (.agg #[.int .i64 t1, .int .i64 t2]) (.agg #[.int .i64 sa, .int .i64 sb])).run Try.prog W = .ok false W := fun W => by rw [eq56, hff]
                      have HQE := Aside0.mk (show ∃ q ∈ L, q.p = t.par ∧ t.wd = q.wd ++ [t.ev] from by
                        rcases HLT.out with h | ⟨_, h⟩
                        · exact absurd (by rw [h] at HTP; have := HTP.out; simp only [root, Prod.mk.injEq] at this; exact ⟨this.1.symm, this.2.symm⟩) hst
                        · exact h)
                      clear hff hst HLT HRT
                      obtain ⟨q, hq, hqp, hqw⟩ := HQE.out
                      have HQP := Aside0.mk hqp
                      have hqw2 := hgg3
                      rw [hqw, List.length_append, List.length_singleton] at hqw2
                      have HQT := Aside0.mk (show q.wd ++ (out ++ [t.ev]).reverse = total from by
                        rw [← HTT.out, hqw]; simp)
                      have hol : (out.length + 1) * 8 ≤ 140737488355328 := by
                        have h1 := congrArg List.length HTT.out
                        rw [List.length_append, List.length_reverse] at h1
                        omega
                      clear hqp hqw
                      have hlk := MapIs.look (HSA.out).hM keyPair Try.underlying59 (zero58 wr) HTD.out false
                      rw [HMG.out] at hlk
                      have hl : (Instr.lookup 59 (.map (some MB)) (.agg #[.int .i64 t1, .int .i64 t2]) false).run Try.prog wr = .ok (.agg #[.int .i64 t.par.1, .int .i64 t.par.2, .int .i64 t.ev]) wr := hlk
                      clear hlk
                      have hfd1 := fun W => (field58 t.par.1 t.par.2 t.ev W).1
                      have hfd0 := fun W => (field58 t.par.1 t.par.2 t.ev W).2
                      go_upto_region 21 with ((with_reducible refine gate_builtin (b := .append) (xs := #[.tmp 86, .tmp 91]) rfl ?_); at_builtin; refine Kd.R_append (Kd.int .i64) (w0 := w) w.heap.size rfl (.tmp 86) (.tmp 91) 25 3 (.int .i64 0) 8 rfl Try.underlying25 info3 rfl (by decide) (by omega) (.slice A16 out.length c16) out t.ev [.int .i64 t.ev] (fun k => S k ∨ wr.heap.size ≤ k) (fun _ => False) rfl rfl rfl (fun _ hk => hk.elim) (fun k hk => .inr hk) (Kd.R_mono HR.out (fun _ hk => .inl hk)) (HSA.out).hb ((HSA.out).hb).size hol ?_; intro v9 w9 hr9 hb9 hg9 hat9; have HS9 := Aside0.mk ((HSA.out).row HR.out hg9); have HR9 := Aside0.mk hr9; clear hr9 hb9 hg9 hat9)
                      clear hl hy0 hy1 hf0 hf1 hx0 hx1 HSA HR
                      have hlk := MapIs.look (HS9.out).hM keyPair Try.underlying59 (zero58 w9) HTD.out false
                      rw [HMG.out] at hlk
                      have hl : (Instr.lookup 59 (.map (some MB)) (.agg #[.int .i64 t1, .int .i64 t2]) false).run Try.prog w9 = .ok (.agg #[.int .i64 t.par.1, .int .i64 t.par.2, .int .i64 t.ev]) w9 := hlk
                      clear hlk
                      obtain ⟨⟨hy0, hy1⟩, hf0, hf1⟩ := (HS9.out).cell (b := yb) (x := (t1, t2)) List.mem_cons_self
                      go_wp2
                      go_roundg q.wd.length
                      case measure => omega
                      case rel =>
                        have hbx := (HS9.out).hbs _ List.mem_cons_self
                        have HS10 := ((HS9.out).less (bs1 := [(xb, x.p), (sk, (sa, sb))]) (fun p hp => List.mem_cons_of_mem _ hp)).put2 hbx.1 hbx.2.2 hbx.2.1 (fun p hp => by
                          simp only [List.mem_cons, List.not_mem_nil, or_false] at hp
                          rcases hp with rfl | rfl
                          · exact fun h => (HYN.out).1 h.symm
                          · exact fun h => (HYN.out).2 h.symm) q.p
                        rw [HQP.out] at HS10
                        refine ⟨q, out ++ [t.ev], fun k => S k ∨ wr.heap.size ≤ k, Nat.le_refl _, hq, HQT, ⟨R_offrow HR9.out hbx.1 (by simp [Kd.int, Kd.scalar]) (grown2 w9 yb _ _)⟩, ⟨?_⟩⟩
                        rw [HQP.out]
                        exact HS10
              | false =>
                have HN2 := Aside0.mk (HN1.out hone)
                rw [hone, Bool.false_or] at HRS
                by_cases hneg : y1 < 0
                · have hneg2 : y2 < 0 := by
                    unfold oneB at hone
                    rw [decide_eq_true hneg] at hone
                    cases h2 : decide (y2 < 0) with
                    | true => exact of_decide_eq_true h2
                    | false => rw [h2] at hone; exact absurd hone (by decide)
                  obtain rfl : y1 = -1 := by omega
                  obtain rfl : y2 = -1 := by omega
                  rw [seen_iff.2 (.inl hneg)] at HRS
                  simp only [if_true] at HRS
                  rw [mget_none.2 (by rw [ents_keys]; exact fun hm => by obtain ⟨t, ht, he⟩ := List.mem_map.1 hm; have := (HQD.out t ht).1.1; rw [he] at this; exact absurd this (by decide))] at hlk
                  have hl : (Instr.lookup 59 (.map (some MB)) (.agg #[.int .i64 (-1), .int .i64 (-1)]) true).run Try.prog w6 = .ok (.tuple #[.agg #[.int .i64 0, .int .i64 0, .int .i64 0], .bool false]) w6 := hlk
                  have heq : ∀ W, (Op.equalIn 10000 56 (.agg #[.int .i64 (-1), .int .i64 (-1)]) (.agg #[.int .i64 (-1), .int .i64 (-1)])).run Try.prog W = .ok true W := fun W => by rw [eq56]; rfl
                  clear hlk hone HN1 HF1 HFD hneg hneg2 hyb hyr
                  go_upto_region 15 with (fail)
                  have HS7 := Aside0.mk ((HSA.out).below (below_alloc (Below.refl w6.heap.size w6) (.cells #[.int .i64 0, .int .i64 0, .int .i64 0] 58)))
                  clear HSA hl hy0 hy1
                  generalize (w6.alloc (.cells #[.int .i64 0, .int .i64 0, .int .i64 0] 58)) = w7 at *
                  obtain ⟨⟨hy0, hy1⟩, _⟩ := (HS7.out).cell (b := yb) (x := (-1, -1)) List.mem_cons_self
                  go_wp2
                  go_roundg (n - (e + 1))
                  case measure => omega
                  case rel =>
                    refine ⟨e + 1, Sq, by omega, by omega, by go_num, HN2, ?_⟩
                    rw [HRS.out]
                    exact ⟨(HS7.out).less (fun p hp => List.mem_cons_of_mem _ hp)⟩
                · have hneg2 : ¬ y2 < 0 := by
                    unfold oneB at hone
                    rw [decide_eq_false hneg] at hone
                    exact fun h2 => by rw [decide_eq_true h2] at hone; exact absurd hone (by decide)
                  by_cases hmem : ((y1, y2) : Int × Int) ∈ qe.map (·.p)
                  · rw [seen_iff.2 (.inr hmem)] at HRS
                    simp only [if_true] at HRS
                    obtain ⟨t, ht, he⟩ := List.mem_map.1 hmem
                    have hmg := mget_ents (HC2.out).nd ht
                    rw [show t.p = (y1, y2) from he] at hmg
                    rw [hmg] at hlk
                    have hl : (Instr.lookup 59 (.map (some MB)) (.agg #[.int .i64 y1, .int .i64 y2]) true).run Try.prog w6 = .ok (.tuple #[.agg #[.int .i64 t.par.1, .int .i64 t.par.2, .int .i64 t.ev], .bool true]) w6 := hlk
                    clear hlk hone HN1 HF1 HFD hneg hneg2 hyb hyr hmem hmg he ht
                    go_upto_region 15 with (fail)
                    have HS7 := Aside0.mk ((HSA.out).below (below_alloc (Below.refl w6.heap.size w6) (.cells #[.int .i64 t.par.1, .int .i64 t.par.2, .int .i64 t.ev] 58)))
                    clear HSA hl hy0 hy1
                    generalize (w6.alloc (.cells #[.int .i64 t.par.1, .int .i64 t.par.2, .int .i64 t.ev] 58)) = w7 at *
                    obtain ⟨⟨hy0, hy1⟩, _⟩ := (HS7.out).cell (b := yb) (x := (y1, y2)) List.mem_cons_self
                    go_wp2
                    go_roundg (n - (e + 1))
                    case measure => omega
                    case rel =>
                      refine ⟨e + 1, Sq, by omega, by omega, by go_num, HN2, ?_⟩
                      rw [HRS.out]
                      exact ⟨(HS7.out).less (fun p hp => List.mem_cons_of_mem _ hp)⟩
                  · have hns : seenB (y1, y2) qe = false := by
                      cases h : seenB (y1, y2) qe with
                      | false => rfl
                      | true => exact absurd (seen_iff.1 h) (by rintro (h | h); exact hneg h; exact hmem h)
                    rw [hns] at HRS
                    simp only [Bool.false_eq_true, if_false] at HRS
                    rw [mget_none.2 (by rw [ents_keys]; exact hmem)] at hlk
                    have hl : (Instr.lookup 59 (.map (some MB)) (.agg #[.int .i64 y1, .int .i64 y2]) true).run Try.prog w6 = .ok (.tuple #[.agg #[.int .i64 0, .int .i64 0, .int .i64 0], .bool false]) w6 := hlk
                    have hff : (y1 == -1 && y2 == -1) = false := by
                      rw [beq_eq_false_iff_ne.2 (by omega : y1 ≠ -1)]; rfl
                    have heq : ∀ W, (Op.equalIn 10000 56 (.agg #[.int .i64 y1, .int .i64 y2]) (.agg #[.int .i64 (-1), .int .i64 (-1)])).run Try.prog W = .ok false W := fun W => by rw [eq56, hff]
                    have k1 : decide (y1 < 0) = false := by simpa using hneg
                    have k2 : decide (y2 < 0) = false := by simpa using hneg2
                    have HML := Aside0.mk (mput_ents (L := qe) (t := ⟨(y1, y2), x.wd ++ [(e : Int)], x.p, e⟩) hmem)
                    clear hlk hone HN1 HF1 HFD hneg hneg2 hyb hyr hmem hns hff
                    go_upto_region 15 with (fail)
                    have HS7 := Aside0.mk ((HSA.out).below (below_alloc (Below.refl w6.heap.size w6) (.cells #[.int .i64 0, .int .i64 0, .int .i64 0] 58)))
                    clear HSA hl hy0 hy1
                    generalize (w6.alloc (.cells #[.int .i64 0, .int .i64 0, .int .i64 0] 58)) = w7 at *
                    obtain ⟨⟨hy0, hy1⟩, _⟩ := (HS7.out).cell (b := yb) (x := (y1, y2)) List.mem_cons_self
                    obtain ⟨⟨hx0, hx1⟩, _⟩ := (HS7.out).cell (b := xb) (x := x.p) mem1
                    obtain ⟨w8, hput, HM8, hg8⟩ := MapIs.put (HS7.out).hM keyPair Try.underlying59 (HWF.out _ HYD.out) (x.p, (e : Int))
                    have hput' : (Instr.mapUpdate 59 (.map (some MB)) (.agg #[.int .i64 y1, .int .i64 y2]) (.agg #[.int .i64 x.p.1, .int .i64 x.p.2, .int .i64 (e : Int)])).run Try.prog w7 = .ok () w8 := hput
                    rw [HML.out] at HM8
                    have HS8 := Aside0.mk ((HS7.out).map HM8 hg8)
                    clear hput HM8 hg8 HML
                    go_upto_region 17 with (fail)
                    clear hput' hx0 hx1 hy0 hy1 HS7
                    obtain ⟨⟨hy0, hy1⟩, _⟩ := (HS8.out).cell (b := yb) (x := (y1, y2)) List.mem_cons_self
                    have hlq2 : ((List.map (fun x => x.p) (List.drop (i + 1) qe)).length + 1) * 16 ≤ 140737488355328 := by have := HQN2.out; omega
                    have hvq : Value.slice A10 qn c10 = Value.slice A10 (List.map (fun x => x.p) (List.drop (i + 1) qe)).length c10 := by rw [HQN2.out]
                    have HVQ := Aside0.mk hvq
                    clear hvq
                    go_wp2_with ((with_reducible refine gate_builtin (b := .append) (xs := #[.tmp 100, .tmp 102]) rfl ?_); at_builtin; refine Kd.Q_append kP (w0 := w) w.heap.size rfl (.tmp 100) (.tmp 102) 60 56 (.agg #[.int .i64 0, .int .i64 0]) 16 rfl Try.underlying60 info56 rfl (by decide) (by omega) (.slice A10 qn c10) (List.map (fun x => x.p) (List.drop (i + 1) qe)) (y1, y2) [.int .i64 y1, .int .i64 y2] (fun k => Sq k ∨ w8.heap.size ≤ k) (fun _ => False) rfl rfl ?m1 ?m2 ?m3 ?m4 ?m5 ?m6 ?m7 ?_; (case m1 => exact M_pair _ _ _ (y1, y2)); (case m2 => exact fun _ hk => hk.elim); (case m3 => exact fun k hk => .inr hk); (case m4 => exact Kd.Q_mono (HS8.out).hQ (fun _ hk => .inl hk)); (case m5 => exact (HS8.out).hb); (case m6 => exact ((HS8.out).hb).size); (case m7 => exact hlq2); intro v9 w9 ho9 hb9 hg9 hat9; have HS9 := Aside0.mk ((HS8.out).appQ ho9 hg9); clear ho9 hb9 hg9 hat9 HS8)
                    go_roundg (n - (e + 1))
                    case measure => omega
                    case rel =>
                      refine ⟨e + 1, fun k => Sq k ∨ w8.heap.size ≤ k, by omega, by omega, by go_num, HN2, ?_⟩
                      rw [HRS.out, List.drop_append_of_le_length hix, List.map_append]
                      exact ⟨(HS9.out).less (fun p hp => List.mem_cons_of_mem _ hp)⟩
          · have hlez : ¬ (e : Int) < (n : Int) := by omega
            obtain rfl : e = n := by omega
            have HN3 := Aside0.mk (HNX.out HRN.out)
            go_wp2
            go_roundg (N - (i + 1))
            case measure => omega
            case rel =>
              refine ⟨i + 1, Sq, by omega, by omega, HN3, ?_⟩
              rw [HST.out]
              exact ⟨(HSA.out).less (fun p hp => List.mem_cons_of_mem _ hp)⟩
      · have HW := Aside0.mk (show av = none from by
          rw [HV.out]
          have := apAns_stays HNO.out (List.getElem?_eq_none_iff.2 (by omega)) (N - i)
          rwa [show i + (N - i) = N from by omega] at this)
        rw [List.drop_eq_nil_of_le (by omega), List.map_nil] at HSA
        obtain ⟨A10, c10, e10, _⟩ := Kd.Q_slice (HSA.out).hQ
        rw [List.length_nil] at e10
        subst e10
        generalize apTo la lb n (sa, sb) i = l at *
        go_wp2
        go_ret3
        rw [HW.out]
        exact ⟨none, 0, Nat.le_refl _, rfl, C_nil _, (HSA.out).hb⟩
  · have HW := Aside0.mk (show apVal ea sa la eb sb lb = none from if_neg hp)
    generalize apVal ea sa la eb sb lb = av at *
    generalize pairVal ea sa la eb sb lb = v at *
    have hv : (v == 0) = false := beq_eq_false_iff_ne.2 hp
    have hv2 : (v != 0) = true := bne_iff_ne.2 hp
    clear hp
    go_enter Try.func23, Try.ntmps23
    go_upto_region 1 with (fail)
    have HS := two3_begin w #[.int .i64 ea, .int .i64 sa, .slice A la.length ca] #[.int .i64 eb, .int .i64 sb, .slice B lb.length cb]
    generalize ((w.alloc (.cells #[.int .i64 ea, .int .i64 sa, .slice A la.length ca] 24)).alloc (.cells #[.int .i64 eb, .int .i64 sb, .slice B lb.length cb] 24)) = w0 at *
    obtain ⟨⟨hc0, hc1, hc2⟩, hd0, hd1, hd2⟩ := two3_held HS
    go_wp2_with fail
    refine (H1.out _ (HS.1).out).mono ?_
    rintro E w1 ⟨rfl, hb⟩
    have HS1 := two3_keep hb HS
    clear hb HS hc0 hc1 hc2 hd0 hd1 hd2 H1
    go_wp2
    go_ret3
    rw [HW.out]
    exact ⟨none, 0, Nat.le_refl _, rfl, C_nil _, (HS1.1).out⟩
end Go.Proofs.Ytmphigeefppfpaa.H
namespace Go.Proofs.Ytmphigeefppfpaa.H
open Go.RowKit Go.Proofs.YtmphigeefppfpaaW.PrintWords Go.Proofs.YtmphigeefppfpaaW.PrintLast Go.Proofs.YtmphigeefppfpaaW.PrintMore
set_option linter.unusedVariables false
theorem below_trans {B : Nat} {w w1 w2 : World} (h : Below B w w1) (k : Below B w1 w2) : Below B w w2 := ⟨k.os.trans h.os, k.tape.trans h.tape, k.output.trans h.output, Nat.le_trans h.size k.size, fun i hi => (k.block i hi).trans (h.block i hi)⟩
structure O4 (w W : World) (ea sa : Int) (A : Option Addr) (ca : Nat) (la : List (List Int)) (eb sb : Int) (B : Option Addr) (cb : Nat) (lb : List (List Int)) (xs ys : List Int) (b9 b10 : Nat) (A9 A10 A11 A12 : Option Addr) (c9 c10 c11 c12 : Nat) : Prop where
  hb : Below w.heap.size w W
  h4 : W.heap[w.heap.size]? = some (.cells #[.int .i64 ea, .int .i64 sa, .slice A la.length ca] 24 (0, 0))
  h5 : W.heap[w.heap.size + 1]? = some (.cells #[.int .i64 eb, .int .i64 sb, .slice B lb.length cb] 24 (0, 0))
  h9 : W.heap[b9]? = some (.cells #[.int .i64 ea, .int .i64 sa, .slice A9 la.length c9] 24 (0, 0))
  h10 : W.heap[b10]? = some (.cells #[.int .i64 eb, .int .i64 sb, .slice A10 lb.length c10] 24 (0, 0))
  k9 : Kd.C (Kd.slice 3 (Kd.int .i64)) W A9 la.length la ∧ la.length ≤ c9
  k10 : Kd.C (Kd.slice 3 (Kd.int .i64)) W A10 lb.length lb ∧ lb.length ≤ c10
  k11 : Kd.C (Kd.int .i64) W A11 xs.length xs ∧ xs.length ≤ c11
  k12 : Kd.C (Kd.int .i64) W A12 ys.length ys ∧ ys.length ≤ c12
section
variable {w w4 W W1 W2 W3 : World} {ea sa eb sb : Int} {A B A9 A10 A11 A12 : Option Addr} {ca cb b9 b10 c9 c10 c11 c12 b13 : Nat} {la lb : List (List Int)} {xs ys : List Int}
theorem O4.below (h : O4 w W ea sa A ca la eb sb B cb lb xs ys b9 b10 A9 A10 A11 A12 c9 c10 c11 c12) (hb : Below W.heap.size W W1) : O4 w W1 ea sa A ca la eb sb B cb lb xs ys b9 b10 A9 A10 A11 A12 c9 c10 c11 c12 :=
  ⟨below_then h.hb h.hb.size hb, blk_below h.h4 hb, blk_below h.h5 hb, blk_below h.h9 hb, blk_below h.h10 hb, ⟨Kd.C_below h.k9.1 hb, h.k9.2⟩, ⟨Kd.C_below h.k10.1 hb, h.k10.2⟩, ⟨Kd.C_below h.k11.1 hb, h.k11.2⟩, ⟨Kd.C_below h.k12.1 hb, h.k12.2⟩⟩
structure O13 (w4 W : World) (b13 : Nat) : Prop where
  hb : Below w4.heap.size w4 W
  h13 : ∃ v0 v1 v2, W.heap[b13]? = some (.cells #[v0, v1, v2] 24 (0, 0))
  hlt : w4.heap.size ≤ b13
theorem O13.below (h : O13 w4 W b13) (hb : Below W.heap.size W W1) : O13 w4 W1 b13 := by
  obtain ⟨v0, v1, v2, h13⟩ := h.h13
  exact ⟨below_then h.hb h.hb.size hb, ⟨v0, v1, v2, blk_below h13 hb⟩, h.hlt⟩
theorem O13.turned (h : O13 w4 W b13) {base : Nat} (hbase : w4.heap.size ≤ base) (hb : Below base W W1) (hk : Kept3 W W1) : O13 w4 W1 b13 := by
  obtain ⟨v0, v1, v2, h13⟩ := h.h13
  exact ⟨below_trans h.hb (hb.mono hbase), ⟨v0, v1, v2, hk _ _ _ (by decide) h13⟩, h.hlt⟩
def put3W (W : World) (b : Nat) (x y z : Value) : World := ((W.setCell ⟨b, 0, none⟩ x).setCell ⟨b, 1, none⟩ y).setCell ⟨b, 2, none⟩ z
theorem O13.put (h : O13 w4 W b13) (hb : Below W.heap.size W W1) {So : Nat → Prop} {A' : Option Addr} {n c' : Nat} {rows : List (List Int)} (hR : Kd.R (Kd.slice 3 (Kd.int .i64)) 25 W1 W.heap.size So (.slice A' n c') rows) (x y : Value) :
    O13 w4 (put3W W1 b13 x y (.slice A' n c')) b13 ∧ (put3W W1 b13 x y (.slice A' n c')).heap[b13]? = some (.cells #[x, y, .slice A' n c'] 24 (0, 0)) ∧ TurnOk (put3W W1 b13 x y (.slice A' n c')) W.heap.size A' n ∧ W.heap.size ≤ (put3W W1 b13 x y (.slice A' n c')).heap.size ∧ w4.heap.size ≤ W.heap.size := by
  have h1 := h.below hb
  obtain ⟨v0, v1, v2, h13⟩ := h1.h13
  have hg := put3_grown W1 b13 x y (.slice A' n c')
  have hs : (put3W W1 b13 x y (.slice A' n c')).heap[b13]? = some (.cells #[x, y, .slice A' n c'] 24 (0, 0)) := blk_set (blk_set (blk_set h13 0 x) 1 y) 2 (.slice A' n c')
  exact ⟨⟨pw_below_grown h1.hb _ h1.hb.size hg (fun k hk => by cases hk; exact h.hlt), ⟨_, _, _, hs⟩, h.hlt⟩, hs, R_turn (R_offrow hR h13 (by simp [Kd.slice, Kd.int, Kd.scalar]) hg), Nat.le_trans hb.size hg.size, h.hb.size⟩
end
end Go.Proofs.Ytmphigeefppfpaa.H
namespace Go.Proofs.Ytmphigeefppfpaa.H
open Go.RowKit Go.Proofs.YtmphigeefppfpaaW.PrintWords Go.Proofs.YtmphigeefppfpaaW.PrintLast Go.Proofs.YtmphigeefppfpaaW.PrintMore
set_option linter.unusedVariables false
set_option maxHeartbeats 4000000 in
theorem own_bad1 (ea sa : Int) (A : Option Addr) (ca : Nat) (la : List (List Int)) (eb sb : Int) (B : Option Addr) (cb : Nat) (lb : List (List Int)) (A1 : Option Addr) (c1 : Nat) (xs : List Int) (A2 : Option Addr) (c2 : Nat) (ys : List Int) (w : World)
    (hra : Kd.C (Kd.slice 3 (Kd.int .i64)) w A la.length la) (hca : la.length ≤ ca) (hrb : Kd.C (Kd.slice 3 (Kd.int .i64)) w B lb.length lb) (hcb : lb.length ≤ cb)
    (hr1 : Kd.C (Kd.int .i64) w A1 xs.length xs) (hc1 : xs.length ≤ c1) (hr2 : Kd.C (Kd.int .i64) w A2 ys.length ys) (hc2 : ys.length ≤ c2) (ha : specOk ea sa la = false) :
    Calls Try.prog 13 #[.agg #[.int .i64 ea, .int .i64 sa, .slice A la.length ca], .agg #[.int .i64 eb, .int .i64 sb, .slice B lb.length cb], .slice A1 xs.length c1, .slice A2 ys.length c2] w fun e w' => e = .returned (.bool true) ∧ Below w.heap.size w w' := by
  have H1 := Aside0.mk fun W (hW : Below w.heap.size w W) => ris_calls ea sa A ca la W (Kd.C_below hra hW) hca
  rw [ha] at H1
  unfold SameEnd at H1
  clear hra hrb hr1 hr2 hca hcb hc1 hc2 ha
  go_enter Try.func13, Try.ntmps13
  go_upto_region 1 with (fail)
  have HS := two3_begin w #[.int .i64 ea, .int .i64 sa, .slice A la.length ca] #[.int .i64 eb, .int .i64 sb, .slice B lb.length cb]
  generalize ((w.alloc (.cells #[.int .i64 ea, .int .i64 sa, .slice A la.length ca] 24)).alloc (.cells #[.int .i64 eb, .int .i64 sb, .slice B lb.length cb] 24)) = w0 at *
  obtain ⟨⟨hc0, hc1', hc2'⟩, hd0, hd1, hd2⟩ := two3_held HS
  go_wp2_with fail
  refine (H1.out _ (HS.1).out).mono ?_
  rintro E w1 ⟨rfl, hb⟩
  have HS1 := two3_keep hb HS
  clear hb HS hc0 hc1' hc2' hd0 hd1 hd2 H1
  go_wp2_with fail
  refine (alive_calls _).mono ?_
  rintro E w9 ⟨rfl, hb⟩
  have HS9 := two3_keep hb HS1
  go_wp2
  go_ret
  exact ⟨rfl, (HS9.1).out⟩
set_option maxHeartbeats 4000000 in
theorem own_bad2 (ea sa : Int) (A : Option Addr) (ca : Nat) (la : List (List Int)) (eb sb : Int) (B : Option Addr) (cb : Nat) (lb : List (List Int)) (A1 : Option Addr) (c1 : Nat) (xs : List Int) (A2 : Option Addr) (c2 : Nat) (ys : List Int) (w : World)
    (hra : Kd.C (Kd.slice 3 (Kd.int .i64)) w A la.length la) (hca : la.length ≤ ca) (hrb : Kd.C (Kd.slice 3 (Kd.int .i64)) w B lb.length lb) (hcb : lb.length ≤ cb)
    (hr1 : Kd.C (Kd.int .i64) w A1 xs.length xs) (hc1 : xs.length ≤ c1) (hr2 : Kd.C (Kd.int .i64) w A2 ys.length ys) (hc2 : ys.length ≤ c2) (ha : specOk ea sa la = true) (hb0 : specOk eb sb lb = false) :
    Calls Try.prog 13 #[.agg #[.int .i64 ea, .int .i64 sa, .slice A la.length ca], .agg #[.int .i64 eb, .int .i64 sb, .slice B lb.length cb], .slice A1 xs.length c1, .slice A2 ys.length c2] w fun e w' => e = .returned (.bool true) ∧ Below w.heap.size w w' := by
  have H1 := Aside0.mk fun W (hW : Below w.heap.size w W) => ris_calls ea sa A ca la W (Kd.C_below hra hW) hca
  rw [ha] at H1
  unfold SameEnd at H1
  have H2 := Aside0.mk fun W (hW : Below w.heap.size w W) => ris_calls eb sb B cb lb W (Kd.C_below hrb hW) hcb
  rw [hb0] at H2
  unfold SameEnd at H2
  clear hra hrb hr1 hr2 hca hcb hc1 hc2 ha hb0
  go_enter Try.func13, Try.ntmps13
  go_upto_region 1 with (fail)
  have HS := two3_begin w #[.int .i64 ea, .int .i64 sa, .slice A la.length ca] #[.int .i64 eb, .int .i64 sb, .slice B lb.length cb]
  generalize ((w.alloc (.cells #[.int .i64 ea, .int .i64 sa, .slice A la.length ca] 24)).alloc (.cells #[.int .i64 eb, .int .i64 sb, .slice B lb.length cb] 24)) = w0 at *
  obtain ⟨⟨hc0, hc1', hc2'⟩, hd0, hd1, hd2⟩ := two3_held HS
  go_wp2_with fail
  refine (H1.out _ (HS.1).out).mono ?_
  rintro E w1 ⟨rfl, hb⟩
  have HS1 := two3_keep hb HS
  clear hb HS hc0 hc1' hc2' hd0 hd1 hd2 H1
  obtain ⟨⟨hc0, hc1', hc2'⟩, hd0, hd1, hd2⟩ := two3_held HS1
  go_wp2_with fail
  refine (H2.out _ (HS1.1).out).mono ?_
  rintro E w2 ⟨rfl, hb⟩
  have HS2 := two3_keep hb HS1
  clear hb HS1 hc0 hc1' hc2' hd0 hd1 hd2 H2
  go_wp2_with fail
  refine (alive_calls _).mono ?_
  rintro E w9 ⟨rfl, hb⟩
  have HS9 := two3_keep hb HS2
  go_wp2
  go_ret
  exact ⟨rfl, (HS9.1).out⟩
set_option maxHeartbeats 4000000 in
theorem own_bad3 (ea sa : Int) (A : Option Addr) (ca : Nat) (la : List (List Int)) (eb sb : Int) (B : Option Addr) (cb : Nat) (lb : List (List Int)) (A1 : Option Addr) (c1 : Nat) (xs : List Int) (A2 : Option Addr) (c2 : Nat) (ys : List Int) (w : World)
    (hra : Kd.C (Kd.slice 3 (Kd.int .i64)) w A la.length la) (hca : la.length ≤ ca) (hrb : Kd.C (Kd.slice 3 (Kd.int .i64)) w B lb.length lb) (hcb : lb.length ≤ cb)
    (hr1 : Kd.C (Kd.int .i64) w A1 xs.length xs) (hc1 : xs.length ≤ c1) (hr2 : Kd.C (Kd.int .i64) w A2 ys.length ys) (hc2 : ys.length ≤ c2) (ha : specOk ea sa la = true) (hb0 : specOk eb sb lb = true) (hx : xs.length > 100) :
    Calls Try.prog 13 #[.agg #[.int .i64 ea, .int .i64 sa, .slice A la.length ca], .agg #[.int .i64 eb, .int .i64 sb, .slice B lb.length cb], .slice A1 xs.length c1, .slice A2 ys.length c2] w fun e w' => e = .returned (.bool true) ∧ Below w.heap.size w w' := by
  have H1 := Aside0.mk fun W (hW : Below w.heap.size w W) => ris_calls ea sa A ca la W (Kd.C_below hra hW) hca
  rw [ha] at H1
  unfold SameEnd at H1
  have H2 := Aside0.mk fun W (hW : Below w.heap.size w W) => ris_calls eb sb B cb lb W (Kd.C_below hrb hW) hcb
  rw [hb0] at H2
  unfold SameEnd at H2
  have hxz : (xs.length : Int) > 100 := by omega
  clear hra hrb hr1 hr2 hca hcb hc1 hc2 ha hb0 hx
  go_enter Try.func13, Try.ntmps13
  go_upto_region 1 with (fail)
  have HS := two3_begin w #[.int .i64 ea, .int .i64 sa, .slice A la.length ca] #[.int .i64 eb, .int .i64 sb, .slice B lb.length cb]
  generalize ((w.alloc (.cells #[.int .i64 ea, .int .i64 sa, .slice A la.length ca] 24)).alloc (.cells #[.int .i64 eb, .int .i64 sb, .slice B lb.length cb] 24)) = w0 at *
  obtain ⟨⟨hc0, hc1', hc2'⟩, hd0, hd1, hd2⟩ := two3_held HS
  go_wp2_with fail
  refine (H1.out _ (HS.1).out).mono ?_
  rintro E w1 ⟨rfl, hb⟩
  have HS1 := two3_keep hb HS
  clear hb HS hc0 hc1' hc2' hd0 hd1 hd2 H1
  obtain ⟨⟨hc0, hc1', hc2'⟩, hd0, hd1, hd2⟩ := two3_held HS1
  go_wp2_with fail
  refine (H2.out _ (HS1.1).out).mono ?_
  rintro E w2 ⟨rfl, hb⟩
  have HS2 := two3_keep hb HS1
  clear hb HS1 hc0 hc1' hc2' hd0 hd1 hd2 H2
  go_wp2_with fail
  refine (alive_calls _).mono ?_
  rintro E w9 ⟨rfl, hb⟩
  have HS9 := two3_keep hb HS2
  go_wp2
  go_ret
  exact ⟨rfl, (HS9.1).out⟩
set_option maxHeartbeats 4000000 in
theorem own_bad4 (ea sa : Int) (A : Option Addr) (ca : Nat) (la : List (List Int)) (eb sb : Int) (B : Option Addr) (cb : Nat) (lb : List (List Int)) (A1 : Option Addr) (c1 : Nat) (xs : List Int) (A2 : Option Addr) (c2 : Nat) (ys : List Int) (w : World)
    (hra : Kd.C (Kd.slice 3 (Kd.int .i64)) w A la.length la) (hca : la.length ≤ ca) (hrb : Kd.C (Kd.slice 3 (Kd.int .i64)) w B lb.length lb) (hcb : lb.length ≤ cb)
    (hr1 : Kd.C (Kd.int .i64) w A1 xs.length xs) (hc1 : xs.length ≤ c1) (hr2 : Kd.C (Kd.int .i64) w A2 ys.length ys) (hc2 : ys.length ≤ c2) (ha : specOk ea sa la = true) (hb0 : specOk eb sb lb = true) (hx : ¬ xs.length > 100) (hy : ys.length > 100) :
    Calls Try.prog 13 #[.agg #[.int .i64 ea, .int .i64 sa, .slice A la.length ca], .agg #[.int .i64 eb, .int .i64 sb, .slice B lb.length cb], .slice A1 xs.length c1, .slice A2 ys.length c2] w fun e w' => e = .returned (.bool true) ∧ Below w.heap.size w w' := by
  have H1 := Aside0.mk fun W (hW : Below w.heap.size w W) => ris_calls ea sa A ca la W (Kd.C_below hra hW) hca
  rw [ha] at H1
  unfold SameEnd at H1
  have H2 := Aside0.mk fun W (hW : Below w.heap.size w W) => ris_calls eb sb B cb lb W (Kd.C_below hrb hW) hcb
  rw [hb0] at H2
  unfold SameEnd at H2
  have hxz : ¬ (xs.length : Int) > 100 := by omega
  have hyz : (ys.length : Int) > 100 := by omega
  clear hra hrb hr1 hr2 hca hcb hc1 hc2 ha hb0 hx hy
  go_enter Try.func13, Try.ntmps13
  go_upto_region 1 with (fail)
  have HS := two3_begin w #[.int .i64 ea, .int .i64 sa, .slice A la.length ca] #[.int .i64 eb, .int .i64 sb, .slice B lb.length cb]
  generalize ((w.alloc (.cells #[.int .i64 ea, .int .i64 sa, .slice A la.length ca] 24)).alloc (.cells #[.int .i64 eb, .int .i64 sb, .slice B lb.length cb] 24)) = w0 at *
  obtain ⟨⟨hc0, hc1', hc2'⟩, hd0, hd1, hd2⟩ := two3_held HS
  go_wp2_with fail
  refine (H1.out _ (HS.1).out).mono ?_
  rintro E w1 ⟨rfl, hb⟩
  have HS1 := two3_keep hb HS
  clear hb HS hc0 hc1' hc2' hd0 hd1 hd2 H1
  obtain ⟨⟨hc0, hc1', hc2'⟩, hd0, hd1, hd2⟩ := two3_held HS1
  go_wp2_with fail
  refine (H2.out _ (HS1.1).out).mono ?_
  rintro E w2 ⟨rfl, hb⟩
  have HS2 := two3_keep hb HS1
  clear hb HS1 hc0 hc1' hc2' hd0 hd1 hd2 H2
  go_wp2_with fail
  refine (alive_calls _).mono ?_
  rintro E w9 ⟨rfl, hb⟩
  have HS9 := two3_keep hb HS2
  go_wp2
  go_ret
  exact ⟨rfl, (HS9.1).out⟩
end Go.Proofs.Ytmphigeefppfpaa.H
namespace Go.Proofs.Ytmphigeefppfpaa.H
open Go.RowKit Go.Proofs.YtmphigeefppfpaaW.PrintWords Go.Proofs.YtmphigeefppfpaaW.PrintLast Go.Proofs.YtmphigeefppfpaaW.PrintMore
set_option linter.unusedVariables false
theorem two3_set {w W : World} {x y : Array Value} (h : two3 w W x y) {b : Nat} (hb : w.heap.size + 1 < b) (i : Nat) (u : Value) : two3 w (W.setCell ⟨b, i, none⟩ u) x y :=
  ⟨⟨pw_below_grown (h.1).out _ ((h.1).out).size (grown_setCell W ⟨b, i, none⟩ u) (fun k hk => by cases hk; show _ ≤ b; omega)⟩, ⟨blk_far (h.2.1).out (fun e => by have e2 : w.heap.size = b := e; omega) u⟩, ⟨blk_far (h.2.2).out (fun e => by have e2 : w.heap.size + 1 = b := e; omega) u⟩⟩
theorem two3_drew {w W : World} {x y : Array Value} (h : two3 w W x y) : two3 w W.drew x y := two3_keep (below_drew (Below.refl _ _)) h
theorem two3_lt {w W : World} {x y : Array Value} (h : two3 w W x y) : w.heap.size + 1 < W.heap.size := blk_lt (h.2.2).out
theorem two3_out {w W : World} {x y : Array Value} (h : two3 w W x y) : Below w.heap.size w W := (h.1).out
theorem box_frozen {W : World} {b : Nat} {x y z : Value} (h : W.heap[b]? = some (.cells #[x, y, z] 24 (0, 0))) : W.frozen? ⟨b, 0, none⟩ = false ∧ W.frozen? ⟨b, 1, none⟩ = false ∧ W.frozen? ⟨b, 2, none⟩ = false := ⟨blk_frozen h 0, blk_frozen h 1, blk_frozen h 2⟩
theorem own_fin {w W : World} {ea sa eb sb : Int} {A B A9 A10 : Option Addr} {ca cb c9 c10 b9 b10 : Nat} {la lb : List (List Int)} (h2 : two3 w W #[.int .i64 ea, .int .i64 sa, .slice A la.length ca] #[.int .i64 eb, .int .i64 sb, .slice B lb.length cb])
    (h9 : W.heap[b9]? = some (.cells #[.int .i64 ea, .int .i64 sa, .slice A9 la.length c9] 24 (0, 0))) (h10 : W.heap[b10]? = some (.cells #[.int .i64 eb, .int .i64 sb, .slice A10 lb.length c10] 24 (0, 0)))
    (k9 : Kd.C (Kd.slice 3 (Kd.int .i64)) W A9 la.length la) (k10 : Kd.C (Kd.slice 3 (Kd.int .i64)) W A10 lb.length lb) : Bx w W [(w.heap.size, #[.int .i64 ea, .int .i64 sa, .slice A la.length ca]), (w.heap.size + 1, #[.int .i64 eb, .int .i64 sb, .slice B lb.length cb]), (b9, #[.int .i64 ea, .int .i64 sa, .slice A9 la.length c9]), (b10, #[.int .i64 eb, .int .i64 sb, .slice A10 lb.length c10])] [(A9, la), (A10, lb)] := by
  refine ⟨two3_out h2, fun p hp => ?_, fun p hp => ?_⟩
  · simp only [List.mem_cons, List.not_mem_nil, or_false] at hp
    rcases hp with rfl | rfl | rfl | rfl
    · exact h2.2.1.out
    · exact h2.2.2.out
    · exact h9
    · exact h10
  · simp only [List.mem_cons, List.not_mem_nil, or_false] at hp
    rcases hp with rfl | rfl
    · exact k9
    · exact k10
theorem spec_lens {ev st : Int} {l : List (List Int)} (h : specOk ev st l = true) : l.length ≤ 5864062014805 ∧ ∀ r ∈ l, r.length < 17592186044416 := by
  obtain ⟨ht, _, h0, h1, _, h3⟩ := spec_table h
  refine ⟨by omega, fun r hr => ?_⟩
  have := (ht r hr).1
  omega
theorem O4.mk' {w W : World} {ea sa eb sb : Int} {A B A9 A10 A11 A12 : Option Addr} {ca cb b9 b10 c9 c10 c11 c12 : Nat} {la lb : List (List Int)} {xs ys : List Int}
    (h : Bx w W [(w.heap.size, #[.int .i64 ea, .int .i64 sa, .slice A la.length ca]), (w.heap.size + 1, #[.int .i64 eb, .int .i64 sb, .slice B lb.length cb]), (b9, #[.int .i64 ea, .int .i64 sa, .slice A9 la.length c9]), (b10, #[.int .i64 eb, .int .i64 sb, .slice A10 lb.length c10])] [(A9, la), (A10, lb)]) (h9 : la.length ≤ c9) (h10 : lb.length ≤ c10) (k11 : Kd.C (Kd.int .i64) W A11 xs.length xs ∧ xs.length ≤ c11) (k12 : Kd.C (Kd.int .i64) W A12 ys.length ys ∧ ys.length ≤ c12) :
    O4 w W ea sa A ca la eb sb B cb lb xs ys b9 b10 A9 A10 A11 A12 c9 c10 c11 c12 :=
  ⟨h.hb, h.hx _ (List.mem_cons_self ..), h.hx _ (List.mem_cons_of_mem _ (List.mem_cons_self ..)), h.hx _ (List.mem_cons_of_mem _ (List.mem_cons_of_mem _ (List.mem_cons_self ..))), h.hx _ (List.mem_cons_of_mem _ (List.mem_cons_of_mem _ (List.mem_cons_of_mem _ (List.mem_cons_self ..)))),
    ⟨h.hc _ (List.mem_cons_self ..), h9⟩, ⟨h.hc _ (List.mem_cons_of_mem _ (List.mem_cons_self ..)), h10⟩, k11, k12⟩
section
variable {w4 W W1 : World} {base b13 : Nat} {So : Nat → Prop} {A' : Option Addr} {n c' : Nat} {rows : List (List Int)}
theorem O13.first (hb : Below w4.heap.size w4 W1) (hR : Kd.R (Kd.slice 3 (Kd.int .i64)) 25 W1 w4.heap.size So (.slice A' n c') rows) (x y : Value) :
    O13 w4 (W1.alloc (.cells #[x, y, .slice A' n c'] 24)) W1.heap.size ∧ (W1.alloc (.cells #[x, y, .slice A' n c'] 24)).heap[W1.heap.size]? = some (.cells #[x, y, .slice A' n c'] 24 (0, 0)) ∧ TurnOk (W1.alloc (.cells #[x, y, .slice A' n c'] 24)) w4.heap.size A' n ∧ w4.heap.size ≤ (W1.alloc (.cells #[x, y, .slice A' n c'] 24)).heap.size ∧ n ≤ 9223372036854775807 := by
  have hs := blk_new W1 (.cells #[x, y, .slice A' n c'] 24)
  have ha := below_alloc (Below.refl W1.heap.size W1) (.cells #[x, y, .slice A' n c'] 24)
  have hb1 := below_then hb hb.size ha
  have hn := Kd.R_reads' hR
  exact ⟨⟨hb1, ⟨_, _, _, hs⟩, hb.size⟩, hs, R_turn (Kd.R_below hR ha), hb1.size, by have := hn.2.2.2.1; omega⟩
theorem R_turnRow {S : Nat → Prop} {c g : Nat} {A : Option Addr} {cs : Array Value} {t : Nat} {xs : List Int} (hR : Kd.R (Kd.int .i64) 3 W base S (.slice A n c) xs) (hb : w4.heap.size ≤ base) (hg : W.heap[g]? = some (.cells cs t (0, 0))) (ht : t ≠ 3) : TurnRow W w4.heap.size g A n := by
  by_cases hm : n = 0
  · exact .inl hm
  have hl := (Kd.R_reads' hR).1
  obtain ⟨b, rfl⟩ : ∃ b, A = some ⟨b, 0, none⟩ := by
    obtain ⟨_, inner, ⟨_, ho⟩, _⟩ := hR
    rcases ho with ⟨hv, _⟩ | ⟨g', cap', cur, hv, _⟩
    · injection hv with h1 h2 _; omega
    · injection hv with h1 _ _; exact ⟨g', h1⟩
  obtain ⟨cs', hh'⟩ := Kd.R_typed hR b rfl
  refine .inr ⟨b, cs', rfl, Nat.le_trans hb (Kd.R_base hR b rfl), blk_ne hh' hg (fun e => ht e.symm), hh', fun k hk => ?_⟩
  subst hl
  have hc := (Kd.R_celln 0 hR (k : Int) (by omega) (by omega)).1
  rw [Int.toNat_natCast, blk_cell hh'] at hc
  exact ⟨_, hc⟩
theorem own_auto {S : Nat → Prop} {c : Nat} {A : Option Addr} {rk : List Int} (hb : Below w4.heap.size w4 W1) (hbase : w4.heap.size ≤ base) (hR : Kd.R (Kd.int .i64) 3 W1 base S (.slice A n c) rk) (x y : Value) :
    Below w4.heap.size w4 (W1.alloc (.cells #[.slice A n c, x, y] 44)) ∧ (W1.alloc (.cells #[.slice A n c, x, y] 44)).heap[W1.heap.size]? = some (.cells #[.slice A n c, x, y] 44 (0, 0)) ∧ TurnRow (W1.alloc (.cells #[.slice A n c, x, y] 44)) w4.heap.size W1.heap.size A n ∧ w4.heap.size ≤ (W1.alloc (.cells #[.slice A n c, x, y] 44)).heap.size ∧ w4.heap.size ≤ W1.heap.size ∧ n ≤ 9223372036854775807 := by
  have hs := blk_new W1 (.cells #[.slice A n c, x, y] 44)
  have ha := below_alloc (Below.refl W1.heap.size W1) (.cells #[.slice A n c, x, y] 44)
  have hb1 := below_then hb hb.size ha
  have hn := Kd.R_reads' hR
  exact ⟨hb1, hs, R_turnRow (Kd.R_below hR ha) hbase hs (by decide), hb1.size, hb.size, by have := hn.2.2.2.1; omega⟩
end
theorem ownInts_self (l : List Int) (hm : l.length ≤ 9223372036854775807) (d : Nat) : ∀ j : Nat, l.length - j = d → j ≤ l.length → Ev (fun k => Q.virgationlaw11_ints.l0 k l l (l.length : Int) (j : Int)) true := by
  induction d with
  | zero =>
    intro j hd hj
    refine ev_end fun k => ?_
    simp only [Q.virgationlaw11_ints.l0]
    rw [if_neg (by omega)]
  | succ d ih =>
    intro j hd hj
    refine ev_next (ih (j + 1) (by omega) (by omega)) fun k => ?_
    simp only [Q.virgationlaw11_ints.l0]
    rw [if_pos (by omega), if_pos (by omega), if_pos (by omega), if_pos (by omega), if_pos trivial, wrap_succ (by omega) (by omega)]
    rfl
theorem ownInts_calls (A : Option Addr) (c : Nat) (B : Option Addr) (c2 : Nat) (l : List Int) (w : World) (hr : Kd.C (Kd.int .i64) w A l.length l) (hc : l.length ≤ c) (hr2 : Kd.C (Kd.int .i64) w B l.length l) (hc2 : l.length ≤ c2) :
    Calls Try.prog 25 #[.slice A l.length c, .slice B l.length c2] w fun e w' => e = .returned (.bool true) ∧ Below w.heap.size w w' := by
  obtain ⟨k, hk⟩ := (ownInts_self l hr.2.1 _ 0 rfl (Nat.zero_le _)).rounds
  refine (Q.virgationlaw11_ints.calls k A c l B c2 l true w hr hc hr2 hc2 ?_).mono fun e w' h => ⟨h.1, h.2.below⟩
  unfold Q.virgationlaw11_ints.f
  rw [if_pos rfl]
  exact hk
theorem box_cells44 {W : World} {b : Nat} {x y z : Value} (h : W.heap[b]? = some (.cells #[x, y, z] 44 (0, 0))) : W.cell? ⟨b, 0, none⟩ = some x ∧ W.cell? ⟨b, 1, none⟩ = some y ∧ W.cell? ⟨b, 2, none⟩ = some z :=
  ⟨(blk_cell h 0).trans rfl, (blk_cell h 1).trans rfl, (blk_cell h 2).trans rfl⟩
def ownT3 : Bool × List (List Nat × List Nat) := (true, [([], []), ([0], [0]), ([], []), ([2, 1], [2]), ([], []), ([], []), ([4, 1, 3, 0, 1, 4, 5], [1, 4]), ([5, 3, 6, 0, 1, 2, 3, 4, 5, 6], [3, 5])])
theorem own_tab3 : rtab .any (opsOf Try.f13 3) = ownT3 := by kernel_rfl
theorem own_bits3 : waitsOk ownT3.2 [0, 1, 0, 7, 0, 0, 63, 127] = true := by kernel_rfl
def OwnJ (w : World) (ea sa : Int) (A : Option Addr) (ca : Nat) (la : List (List Int)) (eb sb : Int) (B : Option Addr) (cb : Nat) (lb : List (List Int)) (s : Nat × Nat × Option Addr × Option Addr × Nat × Nat) (W : World) : Prop :=
  two3 w W #[.int .i64 ea, .int .i64 sa, .slice A la.length ca] #[.int .i64 eb, .int .i64 sb, .slice B lb.length cb] ∧ W.heap[s.1]? = some (.cells #[.int .i64 0, .int .i64 0, .slice none 0 0] 24 (0, 0)) ∧ W.heap[s.2.1]? = some (.cells #[.int .i64 0, .int .i64 0, .slice none 0 0] 24 (0, 0)) ∧ s.1 ≠ s.2.1 ∧ w.heap.size + 1 < s.1 ∧ w.heap.size + 1 < s.2.1 ∧
    ∃ (base9 base10 : Nat) (S9 S10 : Nat → Prop), Kd.R (Kd.slice 3 (Kd.int .i64)) 25 W base9 S9 (.slice s.2.2.1 la.length s.2.2.2.2.1) la ∧ Kd.R (Kd.slice 3 (Kd.int .i64)) 25 W base10 S10 (.slice s.2.2.2.1 lb.length s.2.2.2.2.2) lb
theorem own_closeD {w W : World} {ea sa eb sb : Int} {A B A9 A10 : Option Addr} {ca cb c9 c10 b9 b10 base9 base10 : Nat} {la lb : List (List Int)} {S9 S10 : Nat → Prop} {y0 y1 y2 : Value} (h2 : two3 w W #[.int .i64 ea, .int .i64 sa, .slice A la.length ca] #[.int .i64 eb, .int .i64 sb, .slice B lb.length cb])
    (h9 : W.heap[b9]? = some (.cells #[.int .i64 ea, .int .i64 sa, .slice A9 la.length c9] 24 (0, 0))) (h10 : W.heap[b10]? = some (.cells #[y0, y1, y2] 24 (0, 0))) (hne : b9 ≠ b10) (l10 : w.heap.size + 1 < b10)
    (R9 : Kd.R (Kd.slice 3 (Kd.int .i64)) 25 W base9 S9 (.slice A9 la.length c9) la) (R10 : Kd.R (Kd.slice 3 (Kd.int .i64)) 25 W base10 S10 (.slice A10 lb.length c10) lb) :
    Bx w (put3W W b10 (.int .i64 eb) (.int .i64 sb) (.slice A10 lb.length c10)) [(w.heap.size, #[.int .i64 ea, .int .i64 sa, .slice A la.length ca]), (w.heap.size + 1, #[.int .i64 eb, .int .i64 sb, .slice B lb.length cb]), (b9, #[.int .i64 ea, .int .i64 sa, .slice A9 la.length c9]), (b10, #[.int .i64 eb, .int .i64 sb, .slice A10 lb.length c10])] [(A9, la), (A10, lb)] := by
  have e : ∀ u : World, put3W u b10 (.int .i64 eb) (.int .i64 sb) (.slice A10 lb.length c10) = put3 u b10 (.int .i64 eb) (.int .i64 sb) (.slice A10 lb.length c10) := fun _ => rfl
  rw [e]
  have g10 := put3_grown W b10 (.int .i64 eb) (.int .i64 sb) (.slice A10 lb.length c10)
  have q9 := R_offrow R9 h10 (by simp [Kd.slice, Kd.int, Kd.scalar]) g10
  have q10 := R_offrow R10 h10 (by simp [Kd.slice, Kd.int, Kd.scalar]) g10
  exact own_fin ⟨⟨pw_below_grown (two3_out h2) _ (two3_out h2).size g10 (fun k hk => by cases hk; omega)⟩, ⟨blk_grown h2.2.1.out g10 (fun e => by injection e with e; omega)⟩, ⟨blk_grown h2.2.2.out g10 (fun e => by injection e with e; omega)⟩⟩
    (blk_grown h9 g10 (fun e => by injection e with e; exact hne e)) (put3_blk h10 (.int .i64 eb) (.int .i64 sb) (.slice A10 lb.length c10)) (Kd.R_reads' q9).2.2 (Kd.R_reads' q10).2.2
end Go.Proofs.Ytmphigeefppfpaa.H
namespace Go.Proofs.Ytmphigeefppfpaa.H
open Go.RowKit Go.Proofs.YtmphigeefppfpaaW.PrintWords Go.Proofs.YtmphigeefppfpaaW.PrintLast Go.Proofs.YtmphigeefppfpaaW.PrintMore
set_option linter.unusedVariables false
set_option maxHeartbeats 8000000 in
set_option maxRecDepth 100000 in
theorem own_go (ea sa : Int) (A : Option Addr) (ca : Nat) (la : List (List Int)) (eb sb : Int) (B : Option Addr) (cb : Nat) (lb : List (List Int)) (A1 : Option Addr) (c1 : Nat) (xs : List Int) (A2 : Option Addr) (c2 : Nat) (ys : List Int) (w : World)
    (hra : Kd.C (Kd.slice 3 (Kd.int .i64)) w A la.length la) (hca : la.length ≤ ca) (hrb : Kd.C (Kd.slice 3 (Kd.int .i64)) w B lb.length lb) (hcb : lb.length ≤ cb)
    (hr1 : Kd.C (Kd.int .i64) w A1 xs.length xs) (hc1 : xs.length ≤ c1) (hr2 : Kd.C (Kd.int .i64) w A2 ys.length ys) (hc2 : ys.length ≤ c2) (ha : specOk ea sa la = true) (hb0 : specOk eb sb lb = true) (hx : ¬ xs.length > 100) (hy : ¬ ys.length > 100) :
    Calls Try.prog 13 #[.agg #[.int .i64 ea, .int .i64 sa, .slice A la.length ca], .agg #[.int .i64 eb, .int .i64 sb, .slice B lb.length cb], .slice A1 xs.length c1, .slice A2 ys.length c2] w fun e w' => e = .returned (.bool true) ∧ Below w.heap.size w w' := by
  have H1 := Aside0.mk fun W (hW : Below w.heap.size w W) => ris_calls ea sa A ca la W (Kd.C_below hra hW) hca
  rw [ha] at H1
  unfold SameEnd at H1
  have H2 := Aside0.mk fun W (hW : Below w.heap.size w W) => ris_calls eb sb B cb lb W (Kd.C_below hrb hW) hcb
  rw [hb0] at H2
  unfold SameEnd at H2
  have HCA := Aside0.mk fun W (hW : Below w.heap.size w W) => copy_calls ea sa A ca la W (Kd.C_below hra hW) hca (spec_lens ha).1 (spec_lens ha).2
  have HCB := Aside0.mk fun W (hW : Below w.heap.size w W) => copy_calls eb sb B cb lb W (Kd.C_below hrb hW) hcb (spec_lens hb0).1 (spec_lens hb0).2
  have HSL := Aside0.mk fun W (hW : Below w.heap.size w W) => sLeast_calls ea sa A ca la W (Kd.C_below hra hW)
  simp only [LeastsEnd, ha, if_true] at HSL
  unfold SpecEnd at HSL
  generalize leastRows ea sa la = rowsL at *
  have HBO := Aside0.mk fun W (hW : Below w.heap.size w W) => both_calls ea sa A ca la eb sb B cb lb W (Kd.C_below hra hW) hca (Kd.C_below hrb hW) hcb
  unfold ProdEnd SpecEnd at HBO
  generalize pErr mayBoth ea sa la eb sb lb = errB at *
  generalize pEv mayBoth ea sa la eb sb lb = nB at *
  generalize pRows mayBoth ea sa la eb sb lb = rowsB at *
  have HAO := Aside0.mk fun W (hW : Below w.heap.size w W) => any_calls ea sa A ca la eb sb B cb lb W (Kd.C_below hra hW) hca (Kd.C_below hrb hW) hcb
  unfold ProdEnd SpecEnd at HAO
  generalize pErr mayAny ea sa la eb sb lb = errA at *
  generalize pEv mayAny ea sa la eb sb lb = nA at *
  generalize pRows mayAny ea sa la eb sb lb = rowsA at *
  have HAP := Aside0.mk fun W (hW : Below w.heap.size w W) => sapart_calls ea sa A ca la eb sb B cb lb W (Kd.C_below hra hW) hca (Kd.C_below hrb hW) hcb
  unfold ApEnd at HAP
  have HRE := Aside0.mk fun W (hW : Below w.heap.size w W) => read_calls ea sa A ca la A2 c2 ys W (Kd.C_below hra hW) (Kd.C_below hr2 hW)
  unfold tri at HRE
  have HAU := Aside0.mk fun W (hW : Below w.heap.size w W) => sauto_calls ea sa A ca la A1 A2 c1 c2 xs ys W (Kd.C_below hra hW) (Kd.C_below hr1 hW) hc1 (Kd.C_below hr2 hW)
  unfold AuEnd at HAU
  generalize auErr ea sa la xs ys = errU at *
  generalize auRk ea sa la xs ys = rkU at *
  generalize auM ea sa la xs ys = mU at *
  have HCC := Aside0.mk (And.intro (And.intro hca hcb) (And.intro hc1 hc2))
  have hxz : ¬ (xs.length : Int) > 100 := by omega
  have hyz : ¬ (ys.length : Int) > 100 := by omega
  have HA := Aside0.mk hra
  have HB0 := Aside0.mk hrb
  have HX := Aside0.mk hr1
  have HY := Aside0.mk hr2
  have HSA := Aside0.mk ha
  have HSB := Aside0.mk hb0
  clear hra hrb hr1 hr2 ha hb0
  go_enter Try.func13, Try.ntmps13
  go_upto_region 1 with (fail)
  have HS := two3_begin w #[.int .i64 ea, .int .i64 sa, .slice A la.length ca] #[.int .i64 eb, .int .i64 sb, .slice B lb.length cb]
  generalize ((w.alloc (.cells #[.int .i64 ea, .int .i64 sa, .slice A la.length ca] 24)).alloc (.cells #[.int .i64 eb, .int .i64 sb, .slice B lb.length cb] 24)) = w0 at *
  obtain ⟨⟨hc0, hc1', hc2'⟩, hd0, hd1, hd2⟩ := two3_held HS
  go_wp2_with fail
  refine (H1.out _ (HS.1).out).mono ?_
  rintro E w1 ⟨rfl, hb⟩
  have HS1 := two3_keep hb HS
  clear hb HS hc0 hc1' hc2' hd0 hd1 hd2 H1
  obtain ⟨⟨hc0, hc1', hc2'⟩, hd0, hd1, hd2⟩ := two3_held HS1
  go_wp2_with fail
  refine (H2.out _ (HS1.1).out).mono ?_
  rintro E w2 ⟨rfl, hb⟩
  have HS2 := two3_keep hb HS1
  clear hb HS1 hc0 hc1' hc2' hd0 hd1 hd2 H2
  go_upto_region 3 with (fail)
  go_cut [9, 10] from 37 to 40 (fun s9 s10 wx => ∃ (b9 b10 : Nat) (A9 A10 : Option Addr) (c9 c10 : Nat), s9 = .pointer (some ⟨b9, 0, none⟩) ∧ s10 = .pointer (some ⟨b10, 0, none⟩) ∧ la.length ≤ c9 ∧ lb.length ≤ c10 ∧
    Aside0 (Bx w wx [(w.heap.size, #[.int .i64 ea, .int .i64 sa, .slice A la.length ca]), (w.heap.size + 1, #[.int .i64 eb, .int .i64 sb, .slice B lb.length cb]), (b9, #[.int .i64 ea, .int .i64 sa, .slice A9 la.length c9]), (b10, #[.int .i64 eb, .int .i64 sb, .slice A10 lb.length c10])] [(A9, la), (A10, lb)]))
  case first =>
    have HS := two3_drew HS2
    clear HS2
    refine wp_region_noPanic ?_
    refine start_ (n := 8) (S := fun w' => (w'.cell? ⟨w.heap.size, 0, none⟩ = some (.int .i64 ea) ∧ w'.cell? ⟨w.heap.size, 1, none⟩ = some (.int .i64 sa) ∧ w'.cell? ⟨w.heap.size, 2, none⟩ = some (.slice A la.length ca)) ∧ (w'.cell? ⟨w.heap.size + 1, 0, none⟩ = some (.int .i64 eb) ∧ w'.cell? ⟨w.heap.size + 1, 1, none⟩ = some (.int .i64 sb) ∧ w'.cell? ⟨w.heap.size + 1, 2, none⟩ = some (.slice B lb.length cb))) (ds := []) #[false, false, false, false, false, false, false, false] (by kernel_rfl) rfl rfl (two3_held HS) (fun hHeld => ?_)
    refine with_tabW own_tab3 own_bits3 (fun HT_ HW_ => ?_)
    generalize w2.drew = W0 at HS hHeld ⊢
    refine take_ (i := 0) (N := some 37) (v := ?_) (a' := ?_) #[true, false, false, false, false, false, false, false] rfl rfl (take_ofW HT_.out HW_.out (by kernel_rfl)) (fun _ _ _ h => h) (Or.inl ⟨by rfl, ?_⟩) hHeld ?_ ?_
    rotate_left
    · rintro w' ⟨⟨s0, s1, s2⟩, s3, s4, s5⟩
      go_simp
      with_reducible rfl
    rotate_left
    · simp only [Act.put, List.setIfInBounds_toArray, List.set_cons_zero, List.set_cons_succ]
      rfl
    refine take_ (i := 2) (N := some 39) (v := ?_) (a' := ?_) #[true, false, true, false, false, false, false, false] rfl rfl (take_ofW HT_.out HW_.out (by kernel_rfl)) (fun _ _ _ h => h) (Or.inl ⟨by rfl, ?_⟩) hHeld ?_ ?_
    rotate_left
    · rintro w' ⟨⟨s0, s1, s2⟩, s3, s4, s5⟩
      go_simp
      with_reducible rfl
    rotate_left
    · simp only [Act.put, List.setIfInBounds_toArray, List.set_cons_zero, List.set_cons_succ]
      rfl
    refine join_ (σ := Nat × Nat × Option Addr × Option Addr × Nat × Nat) 2 #[true, true, true, true, true, true, false, false] (fun s => [(38, .agg #[.int .i64 ea, .int .i64 sa, .slice s.2.2.1 la.length s.2.2.2.2.1]), (40, .agg #[.int .i64 eb, .int .i64 sb, .slice s.2.2.2.1 lb.length s.2.2.2.2.2]), (9, .pointer (some ⟨s.1, 0, none⟩)), (10, .pointer (some ⟨s.2.1, 0, none⟩))]) (OwnJ w ea sa A ca la eb sb B cb lb) ?cont (fun hcont => ?orders)
    case orders =>
      refine three_ (i := 1) (j := 4) (k := 5) (Ni := some 38) (Nj := some 9) (Nk := some 10) #[true, true, true, false, false, false, false, false] #[true, false, true, false, true, false, false, false] #[true, false, true, false, false, true, false, false] rfl rfl rfl rfl rfl rfl (three_of HT_.out (by kernel_rfl)) (by decide) (by decide) (by decide) (fun K hK => ?_) (fun K hK => ?_) (fun K hK => ?_)
      · refine goes_ (f := 36) Try.func36 (by kernel_rfl) rfl #[.agg #[.int .i64 ea, .int .i64 sa, .slice A la.length ca]] (by rfl) rfl rfl (by (try simp only [List.map_toArray, List.map_cons, List.map_nil]); rfl) ?_
        refine (HCA.out _ (two3_out HS)).mono ?_
        rintro E W1 ⟨A9, c9, So9, rfl, hR, hb⟩
        have n0_ := two3_keep hb HS
        clear HS
        have HS := n0_
        clear n0_
        have HR9 := Aside0.mk hR
        clear hR hb
        refine ⟨_, rfl, ?_⟩
        refine hK.out _ _ (two3_held HS) (fun hHeld => ?_)
        clear hK K
        refine norm_ (a' := ?_) ?_ ?_
        rotate_left
        · show Act.put _ (some 38) _ = _
          simp only [Act.put, List.setIfInBounds_toArray, List.set_cons_zero, List.set_cons_succ]
          rfl
        refine three_ (i := 3) (j := 4) (k := 5) (Ni := some 40) (Nj := some 9) (Nk := some 10) #[true, true, true, true, false, false, false, false] #[true, true, true, false, true, false, false, false] #[true, true, true, false, false, true, false, false] rfl rfl rfl rfl rfl rfl (three_of HT_.out (by kernel_rfl)) (by decide) (by decide) (by decide) (fun K hK => ?_) (fun K hK => ?_) (fun K hK => ?_)
        · refine goes_ (f := 36) Try.func36 (by kernel_rfl) rfl #[.agg #[.int .i64 eb, .int .i64 sb, .slice B lb.length cb]] (by rfl) rfl rfl (by (try simp only [List.map_toArray, List.map_cons, List.map_nil]); rfl) ?_
          refine (HCB.out _ (two3_out HS)).mono ?_
          rintro E W2 ⟨A10, c10, So10, rfl, hR, hb⟩
          have n0_ := two3_keep hb HS
          clear HS
          have HS := n0_
          clear n0_
          have n0_ := Aside0.mk (Kd.R_below HR9.out hb)
          clear HR9
          have HR9 := n0_
          clear n0_
          have HR10 := Aside0.mk hR
          clear hR hb
          refine ⟨_, rfl, ?_⟩
          refine hK.out _ _ (two3_held HS) (fun hHeld => ?_)
          clear hK K
          refine norm_ (a' := ?_) ?_ ?_
          rotate_left
          · show Act.put _ (some 40) _ = _
            simp only [Act.put, List.setIfInBounds_toArray, List.set_cons_zero, List.set_cons_succ]
            rfl
          refine two_ (i := 4) (j := 5) (Ni := some 9) (Nj := some 10) #[true, true, true, true, true, false, false, false] #[true, true, true, true, false, true, false, false] rfl rfl rfl rfl (two_of HT_.out (by kernel_rfl)) (by decide) (by decide) (fun K hK => ?_) (fun K hK => ?_)
          · refine box_step (by rfl) (N := 9) ?hd (cs := #[.int .i64 0, .int .i64 0, .slice none 0 0]) (t := 24) ?hr ?_
            (case hd => rfl)
            (case hr => first | (go_simp; done) | (go_simp; rfl))
            intro b9 hg W3 hbox hb
            have HL9 := Aside0.mk (show w.heap.size + 1 < b9 by rw [hg]; exact two3_lt HS)
            have n0_ := two3_keep hb HS
            clear HS
            have HS := n0_
            clear n0_
            have n0_ := Aside0.mk (Kd.R_below HR9.out hb)
            clear HR9
            have HR9 := n0_
            clear n0_
            have n0_ := Aside0.mk (Kd.R_below HR10.out hb)
            clear HR10
            have HR10 := n0_
            clear n0_
            have HK9 := Aside0.mk hbox
            clear hg hbox hb
            refine hK.out _ _ (two3_held HS) (fun hHeld => ?_)
            clear hK K
            refine norm_ (a' := ?_) ?_ ?_
            rotate_left
            · show Act.put _ (some 9) _ = _
              simp only [Act.put, List.setIfInBounds_toArray, List.set_cons_zero, List.set_cons_succ]
              rfl
            refine one_ (i := 5) (N := some 10) #[true, true, true, true, true, true, false, false] rfl rfl (one_of HT_.out (by kernel_rfl)) (by decide) (fun K hK => ?_)
            refine box_step (by rfl) (N := 10) ?hd (cs := #[.int .i64 0, .int .i64 0, .slice none 0 0]) (t := 24) ?hr ?_
            (case hd => rfl)
            (case hr => first | (go_simp; done) | (go_simp; rfl))
            intro b10 hg W4 hbox hb
            have HL10 := Aside0.mk (show w.heap.size + 1 < b10 by rw [hg]; exact two3_lt HS)
            have HNE := Aside0.mk (show b9 ≠ b10 by rw [hg]; exact Nat.ne_of_lt (blk_lt HK9.out))
            have n0_ := two3_keep hb HS
            clear HS
            have HS := n0_
            clear n0_
            have n0_ := Aside0.mk (Kd.R_below HR9.out hb)
            clear HR9
            have HR9 := n0_
            clear n0_
            have n0_ := Aside0.mk (Kd.R_below HR10.out hb)
            clear HR10
            have HR10 := n0_
            clear n0_
            have n0_ := Aside0.mk (blk_below HK9.out hb)
            clear HK9
            have HK9 := n0_
            clear n0_
            have HK10 := Aside0.mk hbox
            clear hg hbox hb
            refine hK.out _ _ (two3_held HS) (fun hHeld => ?_)
            clear hK K
            refine norm_ (a' := ?_) ?_ ?_
            rotate_left
            · show Act.put _ (some 10) _ = _
              simp only [Act.put, List.setIfInBounds_toArray, List.set_cons_zero, List.set_cons_succ]
              rfl
            exact norm_ (by simp only [putAll, Act.put, List.setIfInBounds_toArray, List.set_cons_zero, List.set_cons_succ]) (hcont (b9, b10, A9, A10, c9, c10) _ ⟨HS, HK9.out, HK10.out, HNE.out, HL9.out, HL10.out, _, _, _, _, HR9.out, HR10.out⟩)
          · refine box_step (by rfl) (N := 10) ?hd (cs := #[.int .i64 0, .int .i64 0, .slice none 0 0]) (t := 24) ?hr ?_
            (case hd => rfl)
            (case hr => first | (go_simp; done) | (go_simp; rfl))
            intro b10 hg W3 hbox hb
            have HL10 := Aside0.mk (show w.heap.size + 1 < b10 by rw [hg]; exact two3_lt HS)
            have n0_ := two3_keep hb HS
            clear HS
            have HS := n0_
            clear n0_
            have n0_ := Aside0.mk (Kd.R_below HR9.out hb)
            clear HR9
            have HR9 := n0_
            clear n0_
            have n0_ := Aside0.mk (Kd.R_below HR10.out hb)
            clear HR10
            have HR10 := n0_
            clear n0_
            have HK10 := Aside0.mk hbox
            clear hg hbox hb
            refine hK.out _ _ (two3_held HS) (fun hHeld => ?_)
            clear hK K
            refine norm_ (a' := ?_) ?_ ?_
            rotate_left
            · show Act.put _ (some 10) _ = _
              simp only [Act.put, List.setIfInBounds_toArray, List.set_cons_zero, List.set_cons_succ]
              rfl
            refine one_ (i := 4) (N := some 9) #[true, true, true, true, true, true, false, false] rfl rfl (one_of HT_.out (by kernel_rfl)) (by decide) (fun K hK => ?_)
            refine box_step (by rfl) (N := 9) ?hd (cs := #[.int .i64 0, .int .i64 0, .slice none 0 0]) (t := 24) ?hr ?_
            (case hd => rfl)
            (case hr => first | (go_simp; done) | (go_simp; rfl))
            intro b9 hg W4 hbox hb
            have HL9 := Aside0.mk (show w.heap.size + 1 < b9 by rw [hg]; exact two3_lt HS)
            have HNE := Aside0.mk (show b9 ≠ b10 by rw [hg]; exact Nat.ne_of_gt (blk_lt HK10.out))
            have n0_ := two3_keep hb HS
            clear HS
            have HS := n0_
            clear n0_
            have n0_ := Aside0.mk (Kd.R_below HR9.out hb)
            clear HR9
            have HR9 := n0_
            clear n0_
            have n0_ := Aside0.mk (Kd.R_below HR10.out hb)
            clear HR10
            have HR10 := n0_
            clear n0_
            have n0_ := Aside0.mk (blk_below HK10.out hb)
            clear HK10
            have HK10 := n0_
            clear n0_
            have HK9 := Aside0.mk hbox
            clear hg hbox hb
            refine hK.out _ _ (two3_held HS) (fun hHeld => ?_)
            clear hK K
            refine norm_ (a' := ?_) ?_ ?_
            rotate_left
            · show Act.put _ (some 9) _ = _
              simp only [Act.put, List.setIfInBounds_toArray, List.set_cons_zero, List.set_cons_succ]
              rfl
            exact norm_ (by simp only [putAll, Act.put, List.setIfInBounds_toArray, List.set_cons_zero, List.set_cons_succ]) (hcont (b9, b10, A9, A10, c9, c10) _ ⟨HS, HK9.out, HK10.out, HNE.out, HL9.out, HL10.out, _, _, _, _, HR9.out, HR10.out⟩)
        · refine box_step (by rfl) (N := 9) ?hd (cs := #[.int .i64 0, .int .i64 0, .slice none 0 0]) (t := 24) ?hr ?_
          (case hd => rfl)
          (case hr => first | (go_simp; done) | (go_simp; rfl))
          intro b9 hg W2 hbox hb
          have HL9 := Aside0.mk (show w.heap.size + 1 < b9 by rw [hg]; exact two3_lt HS)
          have n0_ := two3_keep hb HS
          clear HS
          have HS := n0_
          clear n0_
          have n0_ := Aside0.mk (Kd.R_below HR9.out hb)
          clear HR9
          have HR9 := n0_
          clear n0_
          have HK9 := Aside0.mk hbox
          clear hg hbox hb
          refine hK.out _ _ (two3_held HS) (fun hHeld => ?_)
          clear hK K
          refine norm_ (a' := ?_) ?_ ?_
          rotate_left
          · show Act.put _ (some 9) _ = _
            simp only [Act.put, List.setIfInBounds_toArray, List.set_cons_zero, List.set_cons_succ]
            rfl
          refine two_ (i := 3) (j := 5) (Ni := some 40) (Nj := some 10) #[true, true, true, true, true, false, false, false] #[true, true, true, false, true, true, false, false] rfl rfl rfl rfl (two_of HT_.out (by kernel_rfl)) (by decide) (by decide) (fun K hK => ?_) (fun K hK => ?_)
          · refine goes_ (f := 36) Try.func36 (by kernel_rfl) rfl #[.agg #[.int .i64 eb, .int .i64 sb, .slice B lb.length cb]] (by rfl) rfl rfl (by (try simp only [List.map_toArray, List.map_cons, List.map_nil]); rfl) ?_
            refine (HCB.out _ (two3_out HS)).mono ?_
            rintro E W3 ⟨A10, c10, So10, rfl, hR, hb⟩
            have n0_ := two3_keep hb HS
            clear HS
            have HS := n0_
            clear n0_
            have n0_ := Aside0.mk (Kd.R_below HR9.out hb)
            clear HR9
            have HR9 := n0_
            clear n0_
            have n0_ := Aside0.mk (blk_below HK9.out hb)
            clear HK9
            have HK9 := n0_
            clear n0_
            have HR10 := Aside0.mk hR
            clear hR hb
            refine ⟨_, rfl, ?_⟩
            refine hK.out _ _ (two3_held HS) (fun hHeld => ?_)
            clear hK K
            refine norm_ (a' := ?_) ?_ ?_
            rotate_left
            · show Act.put _ (some 40) _ = _
              simp only [Act.put, List.setIfInBounds_toArray, List.set_cons_zero, List.set_cons_succ]
              rfl
            refine one_ (i := 5) (N := some 10) #[true, true, true, true, true, true, false, false] rfl rfl (one_of HT_.out (by kernel_rfl)) (by decide) (fun K hK => ?_)
            refine box_step (by rfl) (N := 10) ?hd (cs := #[.int .i64 0, .int .i64 0, .slice none 0 0]) (t := 24) ?hr ?_
            (case hd => rfl)
            (case hr => first | (go_simp; done) | (go_simp; rfl))
            intro b10 hg W4 hbox hb
            have HL10 := Aside0.mk (show w.heap.size + 1 < b10 by rw [hg]; exact two3_lt HS)
            have HNE := Aside0.mk (show b9 ≠ b10 by rw [hg]; exact Nat.ne_of_lt (blk_lt HK9.out))
            have n0_ := two3_keep hb HS
            clear HS
            have HS := n0_
            clear n0_
            have n0_ := Aside0.mk (Kd.R_below HR9.out hb)
            clear HR9
            have HR9 := n0_
            clear n0_
            have n0_ := Aside0.mk (Kd.R_below HR10.out hb)
            clear HR10
            have HR10 := n0_
            clear n0_
            have n0_ := Aside0.mk (blk_below HK9.out hb)
            clear HK9
            have HK9 := n0_
            clear n0_
            have HK10 := Aside0.mk hbox
            clear hg hbox hb
            refine hK.out _ _ (two3_held HS) (fun hHeld => ?_)
            clear hK K
            refine norm_ (a' := ?_) ?_ ?_
            rotate_left
            · show Act.put _ (some 10) _ = _
              simp only [Act.put, List.setIfInBounds_toArray, List.set_cons_zero, List.set_cons_succ]
              rfl
            exact norm_ (by simp only [putAll, Act.put, List.setIfInBounds_toArray, List.set_cons_zero, List.set_cons_succ]) (hcont (b9, b10, A9, A10, c9, c10) _ ⟨HS, HK9.out, HK10.out, HNE.out, HL9.out, HL10.out, _, _, _, _, HR9.out, HR10.out⟩)
          · refine box_step (by rfl) (N := 10) ?hd (cs := #[.int .i64 0, .int .i64 0, .slice none 0 0]) (t := 24) ?hr ?_
            (case hd => rfl)
            (case hr => first | (go_simp; done) | (go_simp; rfl))
            intro b10 hg W3 hbox hb
            have HL10 := Aside0.mk (show w.heap.size + 1 < b10 by rw [hg]; exact two3_lt HS)
            have HNE := Aside0.mk (show b9 ≠ b10 by rw [hg]; exact Nat.ne_of_lt (blk_lt HK9.out))
            have n0_ := two3_keep hb HS
            clear HS
            have HS := n0_
            clear n0_
            have n0_ := Aside0.mk (Kd.R_below HR9.out hb)
            clear HR9
            have HR9 := n0_
            clear n0_
            have n0_ := Aside0.mk (blk_below HK9.out hb)
            clear HK9
            have HK9 := n0_
            clear n0_
            have HK10 := Aside0.mk hbox
            clear hg hbox hb
            refine hK.out _ _ (two3_held HS) (fun hHeld => ?_)
            clear hK K
            refine norm_ (a' := ?_) ?_ ?_
            rotate_left
            · show Act.put _ (some 10) _ = _
              simp only [Act.put, List.setIfInBounds_toArray, List.set_cons_zero, List.set_cons_succ]
              rfl
            refine one_ (i := 3) (N := some 40) #[true, true, true, true, true, true, false, false] rfl rfl (one_of HT_.out (by kernel_rfl)) (by decide) (fun K hK => ?_)
            refine goes_ (f := 36) Try.func36 (by kernel_rfl) rfl #[.agg #[.int .i64 eb, .int .i64 sb, .slice B lb.length cb]] (by rfl) rfl rfl (by (try simp only [List.map_toArray, List.map_cons, List.map_nil]); rfl) ?_
            refine (HCB.out _ (two3_out HS)).mono ?_
            rintro E W4 ⟨A10, c10, So10, rfl, hR, hb⟩
            have n0_ := two3_keep hb HS
            clear HS
            have HS := n0_
            clear n0_
            have n0_ := Aside0.mk (Kd.R_below HR9.out hb)
            clear HR9
            have HR9 := n0_
            clear n0_
            have n0_ := Aside0.mk (blk_below HK9.out hb)
            clear HK9
            have HK9 := n0_
            clear n0_
            have n0_ := Aside0.mk (blk_below HK10.out hb)
            clear HK10
            have HK10 := n0_
            clear n0_
            have HR10 := Aside0.mk hR
            clear hR hb
            refine ⟨_, rfl, ?_⟩
            refine hK.out _ _ (two3_held HS) (fun hHeld => ?_)
            clear hK K
            refine norm_ (a' := ?_) ?_ ?_
            rotate_left
            · show Act.put _ (some 40) _ = _
              simp only [Act.put, List.setIfInBounds_toArray, List.set_cons_zero, List.set_cons_succ]
              rfl
            exact norm_ (by simp only [putAll, Act.put, List.setIfInBounds_toArray, List.set_cons_zero, List.set_cons_succ]) (hcont (b9, b10, A9, A10, c9, c10) _ ⟨HS, HK9.out, HK10.out, HNE.out, HL9.out, HL10.out, _, _, _, _, HR9.out, HR10.out⟩)
        · refine box_step (by rfl) (N := 10) ?hd (cs := #[.int .i64 0, .int .i64 0, .slice none 0 0]) (t := 24) ?hr ?_
          (case hd => rfl)
          (case hr => first | (go_simp; done) | (go_simp; rfl))
          intro b10 hg W2 hbox hb
          have HL10 := Aside0.mk (show w.heap.size + 1 < b10 by rw [hg]; exact two3_lt HS)
          have n0_ := two3_keep hb HS
          clear HS
          have HS := n0_
          clear n0_
          have n0_ := Aside0.mk (Kd.R_below HR9.out hb)
          clear HR9
          have HR9 := n0_
          clear n0_
          have HK10 := Aside0.mk hbox
          clear hg hbox hb
          refine hK.out _ _ (two3_held HS) (fun hHeld => ?_)
          clear hK K
          refine norm_ (a' := ?_) ?_ ?_
          rotate_left
          · show Act.put _ (some 10) _ = _
            simp only [Act.put, List.setIfInBounds_toArray, List.set_cons_zero, List.set_cons_succ]
            rfl
          refine two_ (i := 3) (j := 4) (Ni := some 40) (Nj := some 9) #[true, true, true, true, false, true, false, false] #[true, true, true, false, true, true, false, false] rfl rfl rfl rfl (two_of HT_.out (by kernel_rfl)) (by decide) (by decide) (fun K hK => ?_) (fun K hK => ?_)
          · refine goes_ (f := 36) Try.func36 (by kernel_rfl) rfl #[.agg #[.int .i64 eb, .int .i64 sb, .slice B lb.length cb]] (by rfl) rfl rfl (by (try simp only [List.map_toArray, List.map_cons, List.map_nil]); rfl) ?_
            refine (HCB.out _ (two3_out HS)).mono ?_
            rintro E W3 ⟨A10, c10, So10, rfl, hR, hb⟩
            have n0_ := two3_keep hb HS
            clear HS
            have HS := n0_
            clear n0_
            have n0_ := Aside0.mk (Kd.R_below HR9.out hb)
            clear HR9
            have HR9 := n0_
            clear n0_
            have n0_ := Aside0.mk (blk_below HK10.out hb)
            clear HK10
            have HK10 := n0_
            clear n0_
            have HR10 := Aside0.mk hR
            clear hR hb
            refine ⟨_, rfl, ?_⟩
            refine hK.out _ _ (two3_held HS) (fun hHeld => ?_)
            clear hK K
            refine norm_ (a' := ?_) ?_ ?_
            rotate_left
            · show Act.put _ (some 40) _ = _
              simp only [Act.put, List.setIfInBounds_toArray, List.set_cons_zero, List.set_cons_succ]
              rfl
            refine one_ (i := 4) (N := some 9) #[true, true, true, true, true, true, false, false] rfl rfl (one_of HT_.out (by kernel_rfl)) (by decide) (fun K hK => ?_)
            refine box_step (by rfl) (N := 9) ?hd (cs := #[.int .i64 0, .int .i64 0, .slice none 0 0]) (t := 24) ?hr ?_
            (case hd => rfl)
            (case hr => first | (go_simp; done) | (go_simp; rfl))
            intro b9 hg W4 hbox hb
            have HL9 := Aside0.mk (show w.heap.size + 1 < b9 by rw [hg]; exact two3_lt HS)
            have HNE := Aside0.mk (show b9 ≠ b10 by rw [hg]; exact Nat.ne_of_gt (blk_lt HK10.out))
            have n0_ := two3_keep hb HS
            clear HS
            have HS := n0_
            clear n0_
            have n0_ := Aside0.mk (Kd.R_below HR9.out hb)
            clear HR9
            have HR9 := n0_
            clear n0_
            have n0_ := Aside0.mk (Kd.R_below HR10.out hb)
            clear HR10
            have HR10 := n0_
            clear n0_
            have n0_ := Aside0.mk (blk_below HK10.out hb)
            clear HK10
            have HK10 := n0_
            clear n0_
            have HK9 := Aside0.mk hbox
            clear hg hbox hb
            refine hK.out _ _ (two3_held HS) (fun hHeld => ?_)
            clear hK K
            refine norm_ (a' := ?_) ?_ ?_
            rotate_left
            · show Act.put _ (some 9) _ = _
              simp only [Act.put, List.setIfInBounds_toArray, List.set_cons_zero, List.set_cons_succ]
              rfl
            exact norm_ (by simp only [putAll, Act.put, List.setIfInBounds_toArray, List.set_cons_zero, List.set_cons_succ]) (hcont (b9, b10, A9, A10, c9, c10) _ ⟨HS, HK9.out, HK10.out, HNE.out, HL9.out, HL10.out, _, _, _, _, HR9.out, HR10.out⟩)
          · refine box_step (by rfl) (N := 9) ?hd (cs := #[.int .i64 0, .int .i64 0, .slice none 0 0]) (t := 24) ?hr ?_
            (case hd => rfl)
            (case hr => first | (go_simp; done) | (go_simp; rfl))
            intro b9 hg W3 hbox hb
            have HL9 := Aside0.mk (show w.heap.size + 1 < b9 by rw [hg]; exact two3_lt HS)
            have HNE := Aside0.mk (show b9 ≠ b10 by rw [hg]; exact Nat.ne_of_gt (blk_lt HK10.out))
            have n0_ := two3_keep hb HS
            clear HS
            have HS := n0_
            clear n0_
            have n0_ := Aside0.mk (Kd.R_below HR9.out hb)
            clear HR9
            have HR9 := n0_
            clear n0_
            have n0_ := Aside0.mk (blk_below HK10.out hb)
            clear HK10
            have HK10 := n0_
            clear n0_
            have HK9 := Aside0.mk hbox
            clear hg hbox hb
            refine hK.out _ _ (two3_held HS) (fun hHeld => ?_)
            clear hK K
            refine norm_ (a' := ?_) ?_ ?_
            rotate_left
            · show Act.put _ (some 9) _ = _
              simp only [Act.put, List.setIfInBounds_toArray, List.set_cons_zero, List.set_cons_succ]
              rfl
            refine one_ (i := 3) (N := some 40) #[true, true, true, true, true, true, false, false] rfl rfl (one_of HT_.out (by kernel_rfl)) (by decide) (fun K hK => ?_)
            refine goes_ (f := 36) Try.func36 (by kernel_rfl) rfl #[.agg #[.int .i64 eb, .int .i64 sb, .slice B lb.length cb]] (by rfl) rfl rfl (by (try simp only [List.map_toArray, List.map_cons, List.map_nil]); rfl) ?_
            refine (HCB.out _ (two3_out HS)).mono ?_
            rintro E W4 ⟨A10, c10, So10, rfl, hR, hb⟩
            have n0_ := two3_keep hb HS
            clear HS
            have HS := n0_
            clear n0_
            have n0_ := Aside0.mk (Kd.R_below HR9.out hb)
            clear HR9
            have HR9 := n0_
            clear n0_
            have n0_ := Aside0.mk (blk_below HK9.out hb)
            clear HK9
            have HK9 := n0_
            clear n0_
            have n0_ := Aside0.mk (blk_below HK10.out hb)
            clear HK10
            have HK10 := n0_
            clear n0_
            have HR10 := Aside0.mk hR
            clear hR hb
            refine ⟨_, rfl, ?_⟩
            refine hK.out _ _ (two3_held HS) (fun hHeld => ?_)
            clear hK K
            refine norm_ (a' := ?_) ?_ ?_
            rotate_left
            · show Act.put _ (some 40) _ = _
              simp only [Act.put, List.setIfInBounds_toArray, List.set_cons_zero, List.set_cons_succ]
              rfl
            exact norm_ (by simp only [putAll, Act.put, List.setIfInBounds_toArray, List.set_cons_zero, List.set_cons_succ]) (hcont (b9, b10, A9, A10, c9, c10) _ ⟨HS, HK9.out, HK10.out, HNE.out, HL9.out, HL10.out, _, _, _, _, HR9.out, HR10.out⟩)
      · refine box_step (by rfl) (N := 9) ?hd (cs := #[.int .i64 0, .int .i64 0, .slice none 0 0]) (t := 24) ?hr ?_
        (case hd => rfl)
        (case hr => first | (go_simp; done) | (go_simp; rfl))
        intro b9 hg W1 hbox hb
        have HL9 := Aside0.mk (show w.heap.size + 1 < b9 by rw [hg]; exact two3_lt HS)
        have n0_ := two3_keep hb HS
        clear HS
        have HS := n0_
        clear n0_
        have HK9 := Aside0.mk hbox
        clear hg hbox hb
        refine hK.out _ _ (two3_held HS) (fun hHeld => ?_)
        clear hK K
        refine norm_ (a' := ?_) ?_ ?_
        rotate_left
        · show Act.put _ (some 9) _ = _
          simp only [Act.put, List.setIfInBounds_toArray, List.set_cons_zero, List.set_cons_succ]
          rfl
        refine two_ (i := 1) (j := 5) (Ni := some 38) (Nj := some 10) #[true, true, true, false, true, false, false, false] #[true, false, true, false, true, true, false, false] rfl rfl rfl rfl (two_of HT_.out (by kernel_rfl)) (by decide) (by decide) (fun K hK => ?_) (fun K hK => ?_)
        · refine goes_ (f := 36) Try.func36 (by kernel_rfl) rfl #[.agg #[.int .i64 ea, .int .i64 sa, .slice A la.length ca]] (by rfl) rfl rfl (by (try simp only [List.map_toArray, List.map_cons, List.map_nil]); rfl) ?_
          refine (HCA.out _ (two3_out HS)).mono ?_
          rintro E W2 ⟨A9, c9, So9, rfl, hR, hb⟩
          have n0_ := two3_keep hb HS
          clear HS
          have HS := n0_
          clear n0_
          have n0_ := Aside0.mk (blk_below HK9.out hb)
          clear HK9
          have HK9 := n0_
          clear n0_
          have HR9 := Aside0.mk hR
          clear hR hb
          refine ⟨_, rfl, ?_⟩
          refine hK.out _ _ (two3_held HS) (fun hHeld => ?_)
          clear hK K
          refine norm_ (a' := ?_) ?_ ?_
          rotate_left
          · show Act.put _ (some 38) _ = _
            simp only [Act.put, List.setIfInBounds_toArray, List.set_cons_zero, List.set_cons_succ]
            rfl
          refine two_ (i := 3) (j := 5) (Ni := some 40) (Nj := some 10) #[true, true, true, true, true, false, false, false] #[true, true, true, false, true, true, false, false] rfl rfl rfl rfl (two_of HT_.out (by kernel_rfl)) (by decide) (by decide) (fun K hK => ?_) (fun K hK => ?_)
          · refine goes_ (f := 36) Try.func36 (by kernel_rfl) rfl #[.agg #[.int .i64 eb, .int .i64 sb, .slice B lb.length cb]] (by rfl) rfl rfl (by (try simp only [List.map_toArray, List.map_cons, List.map_nil]); rfl) ?_
            refine (HCB.out _ (two3_out HS)).mono ?_
            rintro E W3 ⟨A10, c10, So10, rfl, hR, hb⟩
            have n0_ := two3_keep hb HS
            clear HS
            have HS := n0_
            clear n0_
            have n0_ := Aside0.mk (Kd.R_below HR9.out hb)
            clear HR9
            have HR9 := n0_
            clear n0_
            have n0_ := Aside0.mk (blk_below HK9.out hb)
            clear HK9
            have HK9 := n0_
            clear n0_
            have HR10 := Aside0.mk hR
            clear hR hb
            refine ⟨_, rfl, ?_⟩
            refine hK.out _ _ (two3_held HS) (fun hHeld => ?_)
            clear hK K
            refine norm_ (a' := ?_) ?_ ?_
            rotate_left
            · show Act.put _ (some 40) _ = _
              simp only [Act.put, List.setIfInBounds_toArray, List.set_cons_zero, List.set_cons_succ]
              rfl
            refine one_ (i := 5) (N := some 10) #[true, true, true, true, true, true, false, false] rfl rfl (one_of HT_.out (by kernel_rfl)) (by decide) (fun K hK => ?_)
            refine box_step (by rfl) (N := 10) ?hd (cs := #[.int .i64 0, .int .i64 0, .slice none 0 0]) (t := 24) ?hr ?_
            (case hd => rfl)
            (case hr => first | (go_simp; done) | (go_simp; rfl))
            intro b10 hg W4 hbox hb
            have HL10 := Aside0.mk (show w.heap.size + 1 < b10 by rw [hg]; exact two3_lt HS)
            have HNE := Aside0.mk (show b9 ≠ b10 by rw [hg]; exact Nat.ne_of_lt (blk_lt HK9.out))
            have n0_ := two3_keep hb HS
            clear HS
            have HS := n0_
            clear n0_
            have n0_ := Aside0.mk (Kd.R_below HR9.out hb)
            clear HR9
            have HR9 := n0_
            clear n0_
            have n0_ := Aside0.mk (Kd.R_below HR10.out hb)
            clear HR10
            have HR10 := n0_
            clear n0_
            have n0_ := Aside0.mk (blk_below HK9.out hb)
            clear HK9
            have HK9 := n0_
            clear n0_
            have HK10 := Aside0.mk hbox
            clear hg hbox hb
            refine hK.out _ _ (two3_held HS) (fun hHeld => ?_)
            clear hK K
            refine norm_ (a' := ?_) ?_ ?_
            rotate_left
            · show Act.put _ (some 10) _ = _
              simp only [Act.put, List.setIfInBounds_toArray, List.set_cons_zero, List.set_cons_succ]
              rfl
            exact norm_ (by simp only [putAll, Act.put, List.setIfInBounds_toArray, List.set_cons_zero, List.set_cons_succ]) (hcont (b9, b10, A9, A10, c9, c10) _ ⟨HS, HK9.out, HK10.out, HNE.out, HL9.out, HL10.out, _, _, _, _, HR9.out, HR10.out⟩)
          · refine box_step (by rfl) (N := 10) ?hd (cs := #[.int .i64 0, .int .i64 0, .slice none 0 0]) (t := 24) ?hr ?_
            (case hd => rfl)
            (case hr => first | (go_simp; done) | (go_simp; rfl))
            intro b10 hg W3 hbox hb
            have HL10 := Aside0.mk (show w.heap.size + 1 < b10 by rw [hg]; exact two3_lt HS)
            have HNE := Aside0.mk (show b9 ≠ b10 by rw [hg]; exact Nat.ne_of_lt (blk_lt HK9.out))
            have n0_ := two3_keep hb HS
            clear HS
            have HS := n0_
            clear n0_
            have n0_ := Aside0.mk (Kd.R_below HR9.out hb)
            clear HR9
            have HR9 := n0_
            clear n0_
            have n0_ := Aside0.mk (blk_below HK9.out hb)
            clear HK9
            have HK9 := n0_
            clear n0_
            have HK10 := Aside0.mk hbox
            clear hg hbox hb
            refine hK.out _ _ (two3_held HS) (fun hHeld => ?_)
            clear hK K
            refine norm_ (a' := ?_) ?_ ?_
            rotate_left
            · show Act.put _ (some 10) _ = _
              simp only [Act.put, List.setIfInBounds_toArray, List.set_cons_zero, List.set_cons_succ]
              rfl
            refine one_ (i := 3) (N := some 40) #[true, true, true, true, true, true, false, false] rfl rfl (one_of HT_.out (by kernel_rfl)) (by decide) (fun K hK => ?_)
            refine goes_ (f := 36) Try.func36 (by kernel_rfl) rfl #[.agg #[.int .i64 eb, .int .i64 sb, .slice B lb.length cb]] (by rfl) rfl rfl (by (try simp only [List.map_toArray, List.map_cons, List.map_nil]); rfl) ?_
            refine (HCB.out _ (two3_out HS)).mono ?_
            rintro E W4 ⟨A10, c10, So10, rfl, hR, hb⟩
            have n0_ := two3_keep hb HS
            clear HS
            have HS := n0_
            clear n0_
            have n0_ := Aside0.mk (Kd.R_below HR9.out hb)
            clear HR9
            have HR9 := n0_
            clear n0_
            have n0_ := Aside0.mk (blk_below HK9.out hb)
            clear HK9
            have HK9 := n0_
            clear n0_
            have n0_ := Aside0.mk (blk_below HK10.out hb)
            clear HK10
            have HK10 := n0_
            clear n0_
            have HR10 := Aside0.mk hR
            clear hR hb
            refine ⟨_, rfl, ?_⟩
            refine hK.out _ _ (two3_held HS) (fun hHeld => ?_)
            clear hK K
            refine norm_ (a' := ?_) ?_ ?_
            rotate_left
            · show Act.put _ (some 40) _ = _
              simp only [Act.put, List.setIfInBounds_toArray, List.set_cons_zero, List.set_cons_succ]
              rfl
            exact norm_ (by simp only [putAll, Act.put, List.setIfInBounds_toArray, List.set_cons_zero, List.set_cons_succ]) (hcont (b9, b10, A9, A10, c9, c10) _ ⟨HS, HK9.out, HK10.out, HNE.out, HL9.out, HL10.out, _, _, _, _, HR9.out, HR10.out⟩)
        · refine box_step (by rfl) (N := 10) ?hd (cs := #[.int .i64 0, .int .i64 0, .slice none 0 0]) (t := 24) ?hr ?_
          (case hd => rfl)
          (case hr => first | (go_simp; done) | (go_simp; rfl))
          intro b10 hg W2 hbox hb
          have HL10 := Aside0.mk (show w.heap.size + 1 < b10 by rw [hg]; exact two3_lt HS)
          have HNE := Aside0.mk (show b9 ≠ b10 by rw [hg]; exact Nat.ne_of_lt (blk_lt HK9.out))
          have n0_ := two3_keep hb HS
          clear HS
          have HS := n0_
          clear n0_
          have n0_ := Aside0.mk (blk_below HK9.out hb)
          clear HK9
          have HK9 := n0_
          clear n0_
          have HK10 := Aside0.mk hbox
          clear hg hbox hb
          refine hK.out _ _ (two3_held HS) (fun hHeld => ?_)
          clear hK K
          refine norm_ (a' := ?_) ?_ ?_
          rotate_left
          · show Act.put _ (some 10) _ = _
            simp only [Act.put, List.setIfInBounds_toArray, List.set_cons_zero, List.set_cons_succ]
            rfl
          refine one_ (i := 1) (N := some 38) #[true, true, true, false, true, true, false, false] rfl rfl (one_of HT_.out (by kernel_rfl)) (by decide) (fun K hK => ?_)
          refine goes_ (f := 36) Try.func36 (by kernel_rfl) rfl #[.agg #[.int .i64 ea, .int .i64 sa, .slice A la.length ca]] (by rfl) rfl rfl (by (try simp only [List.map_toArray, List.map_cons, List.map_nil]); rfl) ?_
          refine (HCA.out _ (two3_out HS)).mono ?_
          rintro E W3 ⟨A9, c9, So9, rfl, hR, hb⟩
          have n0_ := two3_keep hb HS
          clear HS
          have HS := n0_
          clear n0_
          have n0_ := Aside0.mk (blk_below HK9.out hb)
          clear HK9
          have HK9 := n0_
          clear n0_
          have n0_ := Aside0.mk (blk_below HK10.out hb)
          clear HK10
          have HK10 := n0_
          clear n0_
          have HR9 := Aside0.mk hR
          clear hR hb
          refine ⟨_, rfl, ?_⟩
          refine hK.out _ _ (two3_held HS) (fun hHeld => ?_)
          clear hK K
          refine norm_ (a' := ?_) ?_ ?_
          rotate_left
          · show Act.put _ (some 38) _ = _
            simp only [Act.put, List.setIfInBounds_toArray, List.set_cons_zero, List.set_cons_succ]
            rfl
          refine one_ (i := 3) (N := some 40) #[true, true, true, true, true, true, false, false] rfl rfl (one_of HT_.out (by kernel_rfl)) (by decide) (fun K hK => ?_)
          refine goes_ (f := 36) Try.func36 (by kernel_rfl) rfl #[.agg #[.int .i64 eb, .int .i64 sb, .slice B lb.length cb]] (by rfl) rfl rfl (by (try simp only [List.map_toArray, List.map_cons, List.map_nil]); rfl) ?_
          refine (HCB.out _ (two3_out HS)).mono ?_
          rintro E W4 ⟨A10, c10, So10, rfl, hR, hb⟩
          have n0_ := two3_keep hb HS
          clear HS
          have HS := n0_
          clear n0_
          have n0_ := Aside0.mk (Kd.R_below HR9.out hb)
          clear HR9
          have HR9 := n0_
          clear n0_
          have n0_ := Aside0.mk (blk_below HK9.out hb)
          clear HK9
          have HK9 := n0_
          clear n0_
          have n0_ := Aside0.mk (blk_below HK10.out hb)
          clear HK10
          have HK10 := n0_
          clear n0_
          have HR10 := Aside0.mk hR
          clear hR hb
          refine ⟨_, rfl, ?_⟩
          refine hK.out _ _ (two3_held HS) (fun hHeld => ?_)
          clear hK K
          refine norm_ (a' := ?_) ?_ ?_
          rotate_left
          · show Act.put _ (some 40) _ = _
            simp only [Act.put, List.setIfInBounds_toArray, List.set_cons_zero, List.set_cons_succ]
            rfl
          exact norm_ (by simp only [putAll, Act.put, List.setIfInBounds_toArray, List.set_cons_zero, List.set_cons_succ]) (hcont (b9, b10, A9, A10, c9, c10) _ ⟨HS, HK9.out, HK10.out, HNE.out, HL9.out, HL10.out, _, _, _, _, HR9.out, HR10.out⟩)
      · refine box_step (by rfl) (N := 10) ?hd (cs := #[.int .i64 0, .int .i64 0, .slice none 0 0]) (t := 24) ?hr ?_
        (case hd => rfl)
        (case hr => first | (go_simp; done) | (go_simp; rfl))
        intro b10 hg W1 hbox hb
        have HL10 := Aside0.mk (show w.heap.size + 1 < b10 by rw [hg]; exact two3_lt HS)
        have n0_ := two3_keep hb HS
        clear HS
        have HS := n0_
        clear n0_
        have HK10 := Aside0.mk hbox
        clear hg hbox hb
        refine hK.out _ _ (two3_held HS) (fun hHeld => ?_)
        clear hK K
        refine norm_ (a' := ?_) ?_ ?_
        rotate_left
        · show Act.put _ (some 10) _ = _
          simp only [Act.put, List.setIfInBounds_toArray, List.set_cons_zero, List.set_cons_succ]
          rfl
        refine two_ (i := 1) (j := 4) (Ni := some 38) (Nj := some 9) #[true, true, true, false, false, true, false, false] #[true, false, true, false, true, true, false, false] rfl rfl rfl rfl (two_of HT_.out (by kernel_rfl)) (by decide) (by decide) (fun K hK => ?_) (fun K hK => ?_)
        · refine goes_ (f := 36) Try.func36 (by kernel_rfl) rfl #[.agg #[.int .i64 ea, .int .i64 sa, .slice A la.length ca]] (by rfl) rfl rfl (by (try simp only [List.map_toArray, List.map_cons, List.map_nil]); rfl) ?_
          refine (HCA.out _ (two3_out HS)).mono ?_
          rintro E W2 ⟨A9, c9, So9, rfl, hR, hb⟩
          have n0_ := two3_keep hb HS
          clear HS
          have HS := n0_
          clear n0_
          have n0_ := Aside0.mk (blk_below HK10.out hb)
          clear HK10
          have HK10 := n0_
          clear n0_
          have HR9 := Aside0.mk hR
          clear hR hb
          refine ⟨_, rfl, ?_⟩
          refine hK.out _ _ (two3_held HS) (fun hHeld => ?_)
          clear hK K
          refine norm_ (a' := ?_) ?_ ?_
          rotate_left
          · show Act.put _ (some 38) _ = _
            simp only [Act.put, List.setIfInBounds_toArray, List.set_cons_zero, List.set_cons_succ]
            rfl
          refine two_ (i := 3) (j := 4) (Ni := some 40) (Nj := some 9) #[true, true, true, true, false, true, false, false] #[true, true, true, false, true, true, false, false] rfl rfl rfl rfl (two_of HT_.out (by kernel_rfl)) (by decide) (by decide) (fun K hK => ?_) (fun K hK => ?_)
          · refine goes_ (f := 36) Try.func36 (by kernel_rfl) rfl #[.agg #[.int .i64 eb, .int .i64 sb, .slice B lb.length cb]] (by rfl) rfl rfl (by (try simp only [List.map_toArray, List.map_cons, List.map_nil]); rfl) ?_
            refine (HCB.out _ (two3_out HS)).mono ?_
            rintro E W3 ⟨A10, c10, So10, rfl, hR, hb⟩
            have n0_ := two3_keep hb HS
            clear HS
            have HS := n0_
            clear n0_
            have n0_ := Aside0.mk (Kd.R_below HR9.out hb)
            clear HR9
            have HR9 := n0_
            clear n0_
            have n0_ := Aside0.mk (blk_below HK10.out hb)
            clear HK10
            have HK10 := n0_
            clear n0_
            have HR10 := Aside0.mk hR
            clear hR hb
            refine ⟨_, rfl, ?_⟩
            refine hK.out _ _ (two3_held HS) (fun hHeld => ?_)
            clear hK K
            refine norm_ (a' := ?_) ?_ ?_
            rotate_left
            · show Act.put _ (some 40) _ = _
              simp only [Act.put, List.setIfInBounds_toArray, List.set_cons_zero, List.set_cons_succ]
              rfl
            refine one_ (i := 4) (N := some 9) #[true, true, true, true, true, true, false, false] rfl rfl (one_of HT_.out (by kernel_rfl)) (by decide) (fun K hK => ?_)
            refine box_step (by rfl) (N := 9) ?hd (cs := #[.int .i64 0, .int .i64 0, .slice none 0 0]) (t := 24) ?hr ?_
            (case hd => rfl)
            (case hr => first | (go_simp; done) | (go_simp; rfl))
            intro b9 hg W4 hbox hb
            have HL9 := Aside0.mk (show w.heap.size + 1 < b9 by rw [hg]; exact two3_lt HS)
            have HNE := Aside0.mk (show b9 ≠ b10 by rw [hg]; exact Nat.ne_of_gt (blk_lt HK10.out))
            have n0_ := two3_keep hb HS
            clear HS
            have HS := n0_
            clear n0_
            have n0_ := Aside0.mk (Kd.R_below HR9.out hb)
            clear HR9
            have HR9 := n0_
            clear n0_
            have n0_ := Aside0.mk (Kd.R_below HR10.out hb)
            clear HR10
            have HR10 := n0_
            clear n0_
            have n0_ := Aside0.mk (blk_below HK10.out hb)
            clear HK10
            have HK10 := n0_
            clear n0_
            have HK9 := Aside0.mk hbox
            clear hg hbox hb
            refine hK.out _ _ (two3_held HS) (fun hHeld => ?_)
            clear hK K
            refine norm_ (a' := ?_) ?_ ?_
            rotate_left
            · show Act.put _ (some 9) _ = _
              simp only [Act.put, List.setIfInBounds_toArray, List.set_cons_zero, List.set_cons_succ]
              rfl
            exact norm_ (by simp only [putAll, Act.put, List.setIfInBounds_toArray, List.set_cons_zero, List.set_cons_succ]) (hcont (b9, b10, A9, A10, c9, c10) _ ⟨HS, HK9.out, HK10.out, HNE.out, HL9.out, HL10.out, _, _, _, _, HR9.out, HR10.out⟩)
          · refine box_step (by rfl) (N := 9) ?hd (cs := #[.int .i64 0, .int .i64 0, .slice none 0 0]) (t := 24) ?hr ?_
            (case hd => rfl)
            (case hr => first | (go_simp; done) | (go_simp; rfl))
            intro b9 hg W3 hbox hb
            have HL9 := Aside0.mk (show w.heap.size + 1 < b9 by rw [hg]; exact two3_lt HS)
            have HNE := Aside0.mk (show b9 ≠ b10 by rw [hg]; exact Nat.ne_of_gt (blk_lt HK10.out))
            have n0_ := two3_keep hb HS
            clear HS
            have HS := n0_
            clear n0_
            have n0_ := Aside0.mk (Kd.R_below HR9.out hb)
            clear HR9
            have HR9 := n0_
            clear n0_
            have n0_ := Aside0.mk (blk_below HK10.out hb)
            clear HK10
            have HK10 := n0_
            clear n0_
            have HK9 := Aside0.mk hbox
            clear hg hbox hb
            refine hK.out _ _ (two3_held HS) (fun hHeld => ?_)
            clear hK K
            refine norm_ (a' := ?_) ?_ ?_
            rotate_left
            · show Act.put _ (some 9) _ = _
              simp only [Act.put, List.setIfInBounds_toArray, List.set_cons_zero, List.set_cons_succ]
              rfl
            refine one_ (i := 3) (N := some 40) #[true, true, true, true, true, true, false, false] rfl rfl (one_of HT_.out (by kernel_rfl)) (by decide) (fun K hK => ?_)
            refine goes_ (f := 36) Try.func36 (by kernel_rfl) rfl #[.agg #[.int .i64 eb, .int .i64 sb, .slice B lb.length cb]] (by rfl) rfl rfl (by (try simp only [List.map_toArray, List.map_cons, List.map_nil]); rfl) ?_
            refine (HCB.out _ (two3_out HS)).mono ?_
            rintro E W4 ⟨A10, c10, So10, rfl, hR, hb⟩
            have n0_ := two3_keep hb HS
            clear HS
            have HS := n0_
            clear n0_
            have n0_ := Aside0.mk (Kd.R_below HR9.out hb)
            clear HR9
            have HR9 := n0_
            clear n0_
            have n0_ := Aside0.mk (blk_below HK9.out hb)
            clear HK9
            have HK9 := n0_
            clear n0_
            have n0_ := Aside0.mk (blk_below HK10.out hb)
            clear HK10
            have HK10 := n0_
            clear n0_
            have HR10 := Aside0.mk hR
            clear hR hb
            refine ⟨_, rfl, ?_⟩
            refine hK.out _ _ (two3_held HS) (fun hHeld => ?_)
            clear hK K
            refine norm_ (a' := ?_) ?_ ?_
            rotate_left
            · show Act.put _ (some 40) _ = _
              simp only [Act.put, List.setIfInBounds_toArray, List.set_cons_zero, List.set_cons_succ]
              rfl
            exact norm_ (by simp only [putAll, Act.put, List.setIfInBounds_toArray, List.set_cons_zero, List.set_cons_succ]) (hcont (b9, b10, A9, A10, c9, c10) _ ⟨HS, HK9.out, HK10.out, HNE.out, HL9.out, HL10.out, _, _, _, _, HR9.out, HR10.out⟩)
        · refine box_step (by rfl) (N := 9) ?hd (cs := #[.int .i64 0, .int .i64 0, .slice none 0 0]) (t := 24) ?hr ?_
          (case hd => rfl)
          (case hr => first | (go_simp; done) | (go_simp; rfl))
          intro b9 hg W2 hbox hb
          have HL9 := Aside0.mk (show w.heap.size + 1 < b9 by rw [hg]; exact two3_lt HS)
          have HNE := Aside0.mk (show b9 ≠ b10 by rw [hg]; exact Nat.ne_of_gt (blk_lt HK10.out))
          have n0_ := two3_keep hb HS
          clear HS
          have HS := n0_
          clear n0_
          have n0_ := Aside0.mk (blk_below HK10.out hb)
          clear HK10
          have HK10 := n0_
          clear n0_
          have HK9 := Aside0.mk hbox
          clear hg hbox hb
          refine hK.out _ _ (two3_held HS) (fun hHeld => ?_)
          clear hK K
          refine norm_ (a' := ?_) ?_ ?_
          rotate_left
          · show Act.put _ (some 9) _ = _
            simp only [Act.put, List.setIfInBounds_toArray, List.set_cons_zero, List.set_cons_succ]
            rfl
          refine one_ (i := 1) (N := some 38) #[true, true, true, false, true, true, false, false] rfl rfl (one_of HT_.out (by kernel_rfl)) (by decide) (fun K hK => ?_)
          refine goes_ (f := 36) Try.func36 (by kernel_rfl) rfl #[.agg #[.int .i64 ea, .int .i64 sa, .slice A la.length ca]] (by rfl) rfl rfl (by (try simp only [List.map_toArray, List.map_cons, List.map_nil]); rfl) ?_
          refine (HCA.out _ (two3_out HS)).mono ?_
          rintro E W3 ⟨A9, c9, So9, rfl, hR, hb⟩
          have n0_ := two3_keep hb HS
          clear HS
          have HS := n0_
          clear n0_
          have n0_ := Aside0.mk (blk_below HK9.out hb)
          clear HK9
          have HK9 := n0_
          clear n0_
          have n0_ := Aside0.mk (blk_below HK10.out hb)
          clear HK10
          have HK10 := n0_
          clear n0_
          have HR9 := Aside0.mk hR
          clear hR hb
          refine ⟨_, rfl, ?_⟩
          refine hK.out _ _ (two3_held HS) (fun hHeld => ?_)
          clear hK K
          refine norm_ (a' := ?_) ?_ ?_
          rotate_left
          · show Act.put _ (some 38) _ = _
            simp only [Act.put, List.setIfInBounds_toArray, List.set_cons_zero, List.set_cons_succ]
            rfl
          refine one_ (i := 3) (N := some 40) #[true, true, true, true, true, true, false, false] rfl rfl (one_of HT_.out (by kernel_rfl)) (by decide) (fun K hK => ?_)
          refine goes_ (f := 36) Try.func36 (by kernel_rfl) rfl #[.agg #[.int .i64 eb, .int .i64 sb, .slice B lb.length cb]] (by rfl) rfl rfl (by (try simp only [List.map_toArray, List.map_cons, List.map_nil]); rfl) ?_
          refine (HCB.out _ (two3_out HS)).mono ?_
          rintro E W4 ⟨A10, c10, So10, rfl, hR, hb⟩
          have n0_ := two3_keep hb HS
          clear HS
          have HS := n0_
          clear n0_
          have n0_ := Aside0.mk (Kd.R_below HR9.out hb)
          clear HR9
          have HR9 := n0_
          clear n0_
          have n0_ := Aside0.mk (blk_below HK9.out hb)
          clear HK9
          have HK9 := n0_
          clear n0_
          have n0_ := Aside0.mk (blk_below HK10.out hb)
          clear HK10
          have HK10 := n0_
          clear n0_
          have HR10 := Aside0.mk hR
          clear hR hb
          refine ⟨_, rfl, ?_⟩
          refine hK.out _ _ (two3_held HS) (fun hHeld => ?_)
          clear hK K
          refine norm_ (a' := ?_) ?_ ?_
          rotate_left
          · show Act.put _ (some 40) _ = _
            simp only [Act.put, List.setIfInBounds_toArray, List.set_cons_zero, List.set_cons_succ]
            rfl
          exact norm_ (by simp only [putAll, Act.put, List.setIfInBounds_toArray, List.set_cons_zero, List.set_cons_succ]) (hcont (b9, b10, A9, A10, c9, c10) _ ⟨HS, HK9.out, HK10.out, HNE.out, HL9.out, HL10.out, _, _, _, _, HR9.out, HR10.out⟩)
    case cont =>
      clear HS HCA HCB
      rintro ⟨b9, b10, A9, A10, c9, c10⟩ W4 ⟨HS, hk9, hk10, hne, hl9, hl10, base9, base10, S9, S10, hR9, hR10⟩
      dsimp only at hk9 hk10 hne hl9 hl10 hR9 hR10
      refine norm_ (a' := ?_) ?_ ?_
      rotate_left
      · show putAll _ _ = _
        simp only [putAll, Act.put, List.setIfInBounds_toArray, List.set_cons_zero, List.set_cons_succ]
        rfl
      have HC9 := Aside0.mk (Kd.R_reads' hR9).2.1
      have HC10 := Aside0.mk (Kd.R_reads' hR10).2.1
      have hg := put3_grown W4 b9 (.int .i64 ea) (.int .i64 sa) (.slice A9 la.length c9)
      have n0_ : two3 w (put3W W4 b9 (.int .i64 ea) (.int .i64 sa) (.slice A9 la.length c9)) #[.int .i64 ea, .int .i64 sa, .slice A la.length ca] #[.int .i64 eb, .int .i64 sb, .slice B lb.length cb] := two3_set (two3_set (two3_set HS hl9 0 _) hl9 1 _) hl9 2 _
      have n1_ := Aside0.mk (show (put3W W4 b9 (.int .i64 ea) (.int .i64 sa) (.slice A9 la.length c9)).heap[b9]? = _ from put3_blk hk9 (.int .i64 ea) (.int .i64 sa) (.slice A9 la.length c9))
      have n2_ := Aside0.mk (show (put3W W4 b9 (.int .i64 ea) (.int .i64 sa) (.slice A9 la.length c9)).heap[b10]? = _ from blk_grown hk10 hg (fun e => by injection e with e; exact hne e.symm))
      have n3_ := Aside0.mk (show Kd.R _ _ (put3W W4 b9 (.int .i64 ea) (.int .i64 sa) (.slice A9 la.length c9)) _ _ _ _ from R_offrow hR9 hk9 (by simp [Kd.slice, Kd.int, Kd.scalar]) hg)
      have n4_ := Aside0.mk (show Kd.R _ _ (put3W W4 b9 (.int .i64 ea) (.int .i64 sa) (.slice A9 la.length c9)) _ _ _ _ from R_offrow hR10 hk9 (by simp [Kd.slice, Kd.int, Kd.scalar]) hg)
      have HNE := Aside0.mk hne
      have HL10 := Aside0.mk hl10
      obtain ⟨ka0, ka1, ka2⟩ := box_cells hk9
      obtain ⟨kf0, kf1, kf2⟩ := box_frozen hk9
      clear HS hg hk9 hk10 hR9 hR10 hne hl9 hl10
      refine one_ (i := 6) (N := none) #[true, true, true, true, true, true, true, false] rfl rfl (one_of HT_.out (by kernel_rfl)) (by decide) (fun K hK => ?_)
      refine skip_ (w1 := put3W W4 b9 (.int .i64 ea) (.int .i64 sa) (.slice A9 la.length c9)) (by rfl) rfl ?_ ?_
      · unfold put3W
        go_simp
      clear ka0 ka1 ka2 kf0 kf1 kf2
      generalize put3W W4 b9 (.int .i64 ea) (.int .i64 sa) (.slice A9 la.length c9) = W5 at *
      refine hK.out _ _ (two3_held n0_) (fun hHeld => ?_)
      clear hK K
      obtain ⟨ka0, ka1, ka2⟩ := box_cells n2_.out
      obtain ⟨kf0, kf1, kf2⟩ := box_frozen n2_.out
      refine one_ (i := 7) (N := none) #[true, true, true, true, true, true, true, true] rfl rfl (one_of HT_.out (by kernel_rfl)) (by decide) (fun K hK => ?_)
      refine skip_ (w1 := put3W W5 b10 (.int .i64 eb) (.int .i64 sb) (.slice A10 lb.length c10)) (by rfl) rfl ?_ ?_
      · unfold put3W
        go_simp
      clear ka0 ka1 ka2 kf0 kf1 kf2
      refine hK.out _ _ (two3_held (two3_set (two3_set (two3_set n0_ HL10.out 0 _) HL10.out 1 _) HL10.out 2 _)) (fun hHeld => ?_)
      clear hK K
      refine done_ (done_of HT_.out (by kernel_rfl)) ?_
      refine NoPanic.normal ?_
      have HBX := own_closeD n0_ n1_.out n2_.out HNE.out HL10.out n3_.out n4_.out
      clear n0_ n1_ n2_ n3_ n4_ hHeld HNE HL10
      generalize put3W W5 b10 (.int .i64 eb) (.int .i64 sb) (.slice A10 lb.length c10) = W6 at *
      go_wp2_with fail
      go_meet
      exact ⟨b9, b10, A9, A10, c9, c10, rfl, rfl, HC9.out, HC10.out, ⟨HBX⟩⟩
  case rest =>
    clear HCA HCB
    obtain ⟨b9, b10, A9, A10, c9, c10, rfl, rfl, hl9, hl10, HBX⟩ := hcut
    have HL9 := Aside0.mk hl9
    have HL10 := Aside0.mk hl10
    clear hl9 hl10
    generalize wc = w3 at *
    go_upto_region 5 with (first
      | ((with_reducible refine gate_builtin (b := .append) (xs := #[.tmp 41, .tmp 42]) rfl ?_); refine Kd.R_append_rows (Kd.int .i64) (Rr := fun x cs => cs = [Value.int .i64 x]) (w0 := w3) w3.heap.size rfl (.tmp 41) (.tmp 42) 25 3 (.int .i64 0) 8 rfl Try.underlying25 info3 rfl (by decide) (by omega) (.slice (some ⟨w3.heap.size, 0, none⟩) 0 0) [] xs A1 xs.length c1 (fun k => w3.heap.size ≤ k) (fun _ => False) rfl rfl ?m1 ?m2 (fun _ _ h => h) (fun _ hk => hk.elim) ?m3 ?m4 ?m5 ?m6 ?_; (case m1 => exact Kd.R_mono (R_empty (Kd.int .i64) w3 w3.heap.size (Nat.le_refl _)) (fun k hk => by omega)); (case m2 => exact Kd.C_below (Kd.C_below HX.out (HBX.out).hb) (below_alloc (Below.refl _ _) _)); (case m3 => intro k hk; simp at hk; omega); (case m4 => exact below_alloc (Below.refl _ _) _); (case m5 => simp); (case m6 => simp; omega); intro v7 w7 hr7 hb7 hg7 hat7; rw [List.nil_append] at hr7; obtain ⟨A11, c11, rfl⟩ := Kd.R_slice hr7; have HR7 := Aside0.mk hr7; have HBX7 := Aside0.mk ((HBX.out).below hb7); clear hr7 hb7 hg7 hat7)
      | ((with_reducible refine gate_builtin (b := .append) (xs := #[.tmp 44, .tmp 45]) rfl ?_); refine Kd.R_append_rows (Kd.int .i64) (Rr := fun x cs => cs = [Value.int .i64 x]) (w0 := w7) w7.heap.size rfl (.tmp 44) (.tmp 45) 25 3 (.int .i64 0) 8 rfl Try.underlying25 info3 rfl (by decide) (by omega) (.slice (some ⟨w7.heap.size, 0, none⟩) 0 0) [] ys A2 ys.length c2 (fun k => w7.heap.size ≤ k) (fun _ => False) rfl rfl ?m1 ?m2 (fun _ _ h => h) (fun _ hk => hk.elim) ?m3 ?m4 ?m5 ?m6 ?_; (case m1 => exact Kd.R_mono (R_empty (Kd.int .i64) w7 w7.heap.size (Nat.le_refl _)) (fun k hk => by omega)); (case m2 => exact Kd.C_below (Kd.C_below HY.out (HBX7.out).hb) (below_alloc (Below.refl _ _) _)); (case m3 => intro k hk; simp at hk; omega); (case m4 => exact below_alloc (Below.refl _ _) _); (case m5 => simp); (case m6 => simp; omega); intro v8 w4 hr8 hb8 hg8 hat8; rw [List.nil_append] at hr8; obtain ⟨A12, c12, rfl⟩ := Kd.R_slice hr8; have HR8 := Aside0.mk hr8; have HO4 := Aside0.mk (O4.mk' ((HBX7.out).below hb8) HL9.out HL10.out ⟨(Kd.R_reads' (Kd.R_below HR7.out hb8)).2.2, (Kd.R_reads' HR7.out).2.1⟩ ⟨(Kd.R_reads' hr8).2.2, (Kd.R_reads' hr8).2.1⟩); clear hr8 hb8 hg8 hat8)
      | fail)
    clear HBX HBX7 HR7 HR8 HL9 HL10
    (obtain ⟨hc0, hc1', hc2'⟩ := box_cells (HO4.out).h4); (obtain ⟨hd0, hd1, hd2⟩ := box_cells (HO4.out).h5)
    go_wp2_with fail
    refine (HSL.out _ (HO4.out).hb).mono ?_
    rintro E w5 ⟨A13, c13, So, rfl, hR, hb⟩
    clear hc0 hc1' hc2' hd0 hd1 hd2 HSL
    obtain ⟨hT, hB, hO, hS, hn⟩ := O13.first hb hR (.int .i64 ea) (.int .i64 0)
    have HT := Aside0.mk hT
    have HBk := Aside0.mk hB
    have HOk := Aside0.mk hO
    have HSz := Aside0.mk hS
    have HN := Aside0.mk hn
    clear hT hB hO hS hn hR hb
    go_upto_region 6 with (fail)
    generalize (w5.alloc (.cells #[.int .i64 ea, .int .i64 0, .slice A13 rowsL.length c13] 24)) = w6 at *
    generalize w5.heap.size = b13 at *
    obtain ⟨ke0, ke1, ke2⟩ := box_cells HBk.out
    go_wp2_with fail
    refine (turn_calls w4.heap.size ea 0 A13 rowsL.length c13 w6 HOk.out HN.out HSz.out).mono ?_
    rintro E w7 ⟨rfl, hb, hk⟩
    have HT7 := Aside0.mk (O13.turned HT.out (Nat.le_refl _) hb hk)
    clear hb hk HT HBk HOk HSz HN ke0 ke1 ke2
    have HO := (HO4.out).below (HT7.out).hb
    (obtain ⟨hc0, hc1', hc2'⟩ := box_cells (HO).h4); (obtain ⟨hd0, hd1, hd2⟩ := box_cells (HO).h5)
    go_wp2_with fail
    refine (HBO.out _ HO.hb).mono ?_
    rintro E w8 ⟨A14, c14, So, rfl, hR, hb⟩
    clear HO hc0 hc1' hc2' hd0 hd1 hd2 HBO
    obtain ⟨v0, v1, v2, h13⟩ := ((HT7.out).below hb).h13
    obtain ⟨ke0, ke1, ke2⟩ := box_cells h13
    obtain ⟨kf0, kf1, kf2⟩ := box_frozen h13
    obtain ⟨hT, hB, hO, hS, hW⟩ := O13.put HT7.out hb hR (.int .i64 nB) (.int .i64 0)
    have hn := (Kd.R_reads' hR).2.2.2.1
    have HT := Aside0.mk hT
    have HBk := Aside0.mk hB
    have HOk := Aside0.mk hO
    have HSz := Aside0.mk hS
    have HWz := Aside0.mk hW
    have HN := Aside0.mk hn
    clear hT hB hO hS hW hn hR hb h13
    unfold put3W at HT HBk HOk HSz
    go_upto_region 8 with (fail)
    clear ke0 ke1 ke2 kf0 kf1 kf2
    generalize (((w8.setCell ⟨b13, 0, none⟩ (.int .i64 nB)).setCell ⟨b13, 1, none⟩ (.int .i64 0)).setCell ⟨b13, 2, none⟩ (.slice A14 rowsB.length c14)) = w9 at *
    obtain ⟨ke0, ke1, ke2⟩ := box_cells HBk.out
    go_wp2_with fail
    refine (turn_calls w7.heap.size nB 0 A14 rowsB.length c14 w9 HOk.out HN.out HSz.out).mono ?_
    rintro E w10 ⟨rfl, hb, hk⟩
    have HT10 := Aside0.mk (O13.turned HT.out HWz.out hb hk)
    clear hb hk HT HBk HOk HSz HWz HN ke0 ke1 ke2 HT7
    have HO := (HO4.out).below (HT10.out).hb
    (obtain ⟨hc0, hc1', hc2'⟩ := box_cells (HO).h4); (obtain ⟨hd0, hd1, hd2⟩ := box_cells (HO).h5)
    go_wp2_with fail
    refine (HAO.out _ HO.hb).mono ?_
    rintro E w11 ⟨A15, c15, So, rfl, hR, hb⟩
    clear HO hc0 hc1' hc2' hd0 hd1 hd2 HAO
    obtain ⟨v0, v1, v2, h13⟩ := ((HT10.out).below hb).h13
    obtain ⟨ke0, ke1, ke2⟩ := box_cells h13
    obtain ⟨kf0, kf1, kf2⟩ := box_frozen h13
    obtain ⟨hT, hB, hO, hS, hW⟩ := O13.put HT10.out hb hR (.int .i64 nA) (.int .i64 0)
    have hn := (Kd.R_reads' hR).2.2.2.1
    have HT := Aside0.mk hT
    have HBk := Aside0.mk hB
    have HOk := Aside0.mk hO
    have HSz := Aside0.mk hS
    have HWz := Aside0.mk hW
    have HN := Aside0.mk hn
    clear hT hB hO hS hW hn hR hb h13
    unfold put3W at HT HBk HOk HSz
    go_upto_region 10 with (fail)
    clear ke0 ke1 ke2 kf0 kf1 kf2
    generalize (((w11.setCell ⟨b13, 0, none⟩ (.int .i64 nA)).setCell ⟨b13, 1, none⟩ (.int .i64 0)).setCell ⟨b13, 2, none⟩ (.slice A15 rowsA.length c15)) = w12 at *
    obtain ⟨ke0, ke1, ke2⟩ := box_cells HBk.out
    go_wp2_with fail
    refine (turn_calls w10.heap.size nA 0 A15 rowsA.length c15 w12 HOk.out HN.out HSz.out).mono ?_
    rintro E w13 ⟨rfl, hb, hk⟩
    have HT13 := Aside0.mk (O13.turned HT.out HWz.out hb hk)
    clear hb hk HT HBk HOk HSz HWz HN ke0 ke1 ke2 HT10
    have HO := (HO4.out).below (HT13.out).hb
    obtain ⟨hc0, hc1', hc2'⟩ := box_cells HO.h4
    obtain ⟨hd0, hd1, hd2⟩ := box_cells HO.h5
    go_wp2_with fail
    refine (HAP.out _ HO.hb).mono ?_
    rintro E w14 ⟨A14, c14, hl14, rfl, hC14, hb⟩
    have HT14 := Aside0.mk ((HT13.out).below hb)
    clear HO hc0 hc1' hc2' hd0 hd1 hd2 HAP hb hC14 hl14 HT13
    have HO := (HO4.out).below (HT14.out).hb
    (obtain ⟨hc0, hc1', hc2'⟩ := box_cells (HO).h4); (obtain ⟨hd0, hd1, hd2⟩ := box_cells (HO).h5)
    go_wp2_with fail
    refine (HRE.out _ HO.hb).mono ?_
    rintro E w15 ⟨rfl, hb⟩
    have HT15 := Aside0.mk ((HT14.out).below hb)
    clear HO hc0 hc1' hc2' hd0 hd1 hd2 HRE hb HT14
    have HO := (HO4.out).below (HT15.out).hb
    (obtain ⟨hc0, hc1', hc2'⟩ := box_cells (HO).h4); (obtain ⟨hd0, hd1, hd2⟩ := box_cells (HO).h5)
    go_wp2_with fail
    refine (HAU.out _ HO.hb).mono ?_
    rintro E w16 ⟨A15, A16, c15, c16, S15, S16, rfl, hR, hR2, hb⟩
    obtain ⟨hB, hK, hO, hS, hW, hn⟩ := own_auto (w4 := w4) ((HT15.out).below hb).hb ((HT15.out).hb).size hR (.int .i64 0) (.slice A16 mU.length c16)
    have HB := Aside0.mk hB
    have HK := Aside0.mk hK
    have HR := Aside0.mk hO
    have HS := Aside0.mk hS
    have HW := Aside0.mk hW
    clear HO hc0 hc1' hc2' hd0 hd1 hd2 HAU hb hR hR2 hB hK hO hS hW HT15
    generalize rkU.length = n at *
    go_upto_region 14 with (fail)
    generalize (w16.alloc (.cells #[.slice A15 n c15, .int .i64 0, .slice A16 mU.length c16] 44)) = w17 at *
    generalize w16.heap.size = b15 at *
    obtain ⟨ke0, ke1, ke2⟩ := box_cells44 HK.out
    go_wp2
    clear ke0 ke1 ke2
    go_loopg [86] n (fun gg v86 wi => ∃ i : Nat, i ≤ n ∧ n - i ≤ gg ∧ v86 = .int .i64 i ∧ Aside0 (Below w4.heap.size w4 wi) ∧ Aside0 (w4.heap.size ≤ wi.heap.size) ∧ Aside0 (wi.heap[b15]? = some (.cells #[.slice A15 n c15, .int .i64 0, .slice A16 mU.length c16] 44 (0, 0))) ∧ Aside0 (TurnRow wi w4.heap.size b15 A15 n))
    case atStart => exact ⟨0, by omega, by omega, rfl, HB, HS, HK, HR⟩
    case round =>
      clear HB HS HK HR
      obtain ⟨i, hin, hgg, rfl, HB, HS, HK, HR⟩ := hrel
      by_cases hlt : i < n
      · have hltz : (i : Int) < (n : Int) := by omega
        obtain ⟨b, cs', hA', hb', hne, hh', hx'⟩ := (HR.out).resolve_left (by omega)
        subst hA'
        obtain ⟨x, hxk⟩ := hx' i hlt
        obtain ⟨ke0, ke1, ke2⟩ := box_cells44 HK.out
        have hcx : wr.cell? ⟨b, i, none⟩ = some (.int .i64 x) := (blk_cell hh' i).trans hxk
        have hfx : wr.frozen? ⟨b, i, none⟩ = false := blk_frozen hh' i
        have HNE := Aside0.mk hne
        have HBB := Aside0.mk hb'
        clear hx' hh' hxk hne hb'
        go_wp2
        go_roundg (n - (i + 1))
        case measure => omega
        case rel =>
          exact ⟨i + 1, by omega, by omega, by go_num, ⟨pw_below_grown HB.out _ HS.out (grown_setCell wr ⟨b, i, none⟩ _) (fun j hj => by cases hj; exact HBB.out)⟩, ⟨Nat.le_trans HS.out (grown_setCell wr ⟨b, i, none⟩ _).size⟩, ⟨blk_far HK.out (fun e => HNE.out e.symm) _⟩, ⟨(HR.out).set b i _⟩⟩
      · have hltz : ¬ (i : Int) < (n : Int) := by omega
        have HO := (HO4.out).below HB.out
        have HR1 := Aside0.mk (rsame_calls ea sa A ca la ea sa A9 c9 la wr (Kd.C_below HA.out HO.hb) (HCC.out).1.1 HO.k9.1 HO.k9.2)
        rw [sameVal_self, HSA.out] at HR1
        unfold SameEnd at HR1
        have HR2 := Aside0.mk fun W (hW : Below wr.heap.size wr W) => rsame_calls eb sb B cb lb eb sb A10 c10 lb W (Kd.C_below (Kd.C_below HB0.out HO.hb) hW) (HCC.out).1.2 (Kd.C_below HO.k10.1 hW) HO.k10.2
        rw [sameVal_self, HSB.out] at HR2
        unfold SameEnd at HR2
        have HI1 := Aside0.mk fun W (hW : Below wr.heap.size wr W) => ownInts_calls A1 c1 A11 c11 xs W (Kd.C_below (Kd.C_below HX.out HO.hb) hW) (HCC.out).2.1 (Kd.C_below HO.k11.1 hW) HO.k11.2
        have HI2 := Aside0.mk fun W (hW : Below wr.heap.size wr W) => ownInts_calls A2 c2 A12 c12 ys W (Kd.C_below (Kd.C_below HY.out HO.hb) hW) (HCC.out).2.2 (Kd.C_below HO.k12.1 hW) HO.k12.2
        have hk4 : ∀ W, Below wr.heap.size wr W → W.heap[w.heap.size]? = some (.cells #[.int .i64 ea, .int .i64 sa, .slice A la.length ca] 24 (0, 0)) := fun W hW => blk_below HO.h4 hW
        have HO0 := Aside0.mk HO
        (obtain ⟨hc0, hc1', hc2'⟩ := box_cells (HO).h4); (obtain ⟨hd0, hd1, hd2⟩ := box_cells (HO).h5)
        obtain ⟨he0, he1, he2⟩ := box_cells HO.h9
        clear HO hk4
        go_wp2_with fail
        refine (HR1.out).mono ?_
        rintro E w18 ⟨rfl, hb⟩
        have HB18 := Aside0.mk hb
        clear hb hc0 hc1' hc2' hd0 hd1 hd2 he0 he1 he2 HR1
        obtain ⟨hd0, hd1, hd2⟩ := box_cells (blk_below (HO0.out).h5 HB18.out)
        obtain ⟨he0, he1, he2⟩ := box_cells (blk_below (HO0.out).h10 HB18.out)
        go_wp2_with fail
        refine (HR2.out _ HB18.out).mono ?_
        rintro E w19 ⟨rfl, hb⟩
        have HB19 := Aside0.mk (below_then HB18.out (HB18.out).size hb)
        clear hb hd0 hd1 hd2 he0 he1 he2 HR2 HB18
        go_wp2_with fail
        refine (HI1.out _ HB19.out).mono ?_
        rintro E w20 ⟨rfl, hb⟩
        have HB20 := Aside0.mk (below_then HB19.out (HB19.out).size hb)
        clear hb HI1 HB19
        go_wp2_with fail
        refine (HI2.out _ HB20.out).mono ?_
        rintro E w21 ⟨rfl, hb⟩
        have HB21 := Aside0.mk (below_then HB20.out (HB20.out).size hb)
        clear hb HI2 HB20
        go_wp2_with fail
        refine (alive_calls _).mono ?_
        rintro E w9 ⟨rfl, hb⟩
        have HB22 := Aside0.mk (below_then HB21.out (HB21.out).size hb)
        go_wp2
        go_ret
        exact ⟨rfl, below_then (HO0.out).hb ((HO0.out).hb).size HB22.out⟩
end Go.Proofs.Ytmphigeefppfpaa.H
namespace Go.Proofs.Ytmphigeefppfpaa.H
open Go.RowKit Go.Proofs.YtmphigeefppfpaaW.PrintWords Go.Proofs.YtmphigeefppfpaaW.PrintLast Go.Proofs.YtmphigeefppfpaaW.PrintMore
theorem specOwn_calls (ea sa : Int) (A : Option Addr) (ca : Nat) (la : List (List Int)) (eb sb : Int) (B : Option Addr) (cb : Nat) (lb : List (List Int)) (A1 : Option Addr) (c1 : Nat) (xs : List Int) (A2 : Option Addr) (c2 : Nat) (ys : List Int) (w : World)
    (hra : Kd.C (Kd.slice 3 (Kd.int .i64)) w A la.length la) (hca : la.length ≤ ca) (hrb : Kd.C (Kd.slice 3 (Kd.int .i64)) w B lb.length lb) (hcb : lb.length ≤ cb)
    (hr1 : Kd.C (Kd.int .i64) w A1 xs.length xs) (hc1 : xs.length ≤ c1) (hr2 : Kd.C (Kd.int .i64) w A2 ys.length ys) (hc2 : ys.length ≤ c2) :
    Calls Try.prog 13 #[.agg #[.int .i64 ea, .int .i64 sa, .slice A la.length ca], .agg #[.int .i64 eb, .int .i64 sb, .slice B lb.length cb], .slice A1 xs.length c1, .slice A2 ys.length c2] w fun e w' => e = .returned (.bool true) ∧ Below w.heap.size w w' := by
  cases ha : specOk ea sa la with
  | false => exact own_bad1 ea sa A ca la eb sb B cb lb A1 c1 xs A2 c2 ys w hra hca hrb hcb hr1 hc1 hr2 hc2 ha
  | true =>
    cases hb : specOk eb sb lb with
    | false => exact own_bad2 ea sa A ca la eb sb B cb lb A1 c1 xs A2 c2 ys w hra hca hrb hcb hr1 hc1 hr2 hc2 ha hb
    | true =>
      by_cases hx : xs.length > 100
      · exact own_bad3 ea sa A ca la eb sb B cb lb A1 c1 xs A2 c2 ys w hra hca hrb hcb hr1 hc1 hr2 hc2 ha hb hx
      · by_cases hy : ys.length > 100
        · exact own_bad4 ea sa A ca la eb sb B cb lb A1 c1 xs A2 c2 ys w hra hca hrb hcb hr1 hc1 hr2 hc2 ha hb hx hy
        · exact own_go ea sa A ca la eb sb B cb lb A1 c1 xs A2 c2 ys w hra hca hrb hcb hr1 hc1 hr2 hc2 ha hb hx hy
end Go.Proofs.Ytmphigeefppfpaa.H
