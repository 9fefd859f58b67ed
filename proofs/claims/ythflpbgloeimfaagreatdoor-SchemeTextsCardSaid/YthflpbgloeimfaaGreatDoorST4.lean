/- What schemeTexts_calls, schemeRound_calls, handed_and_shaped, own, laidOut, laid7, mx_of_shaped, arg_scheme needs, out of my texts, by a program (slim.py). -/
import Derived.Test.YthflpbgloeimfaaGreatDoorST3
namespace Go.Proofs.YthflpbgloeimfaaGreatDoor.H
open Go.RowKit Go.Proofs.YthflpbgloeimfaaGreatDoorW.PrintWords Go.Proofs.YthflpbgloeimfaaGreatDoorW.PrintLast Go.Proofs.YthflpbgloeimfaaGreatDoorW.PrintMore
open Go.Proofs.YthflpbgloeimfaaGreatDoor.Q (S47 k47 rd_T47 z47 at_T47 S50 k50 rd_T50 z50 at_T50 S52 k52 rd_T52 at_T52 z52 S71 k71 rd_T71 at_T71)
set_option linter.unusedVariables false
theorem symR_size {l : List UInt8} {y : S71} (h : symR l = some y) : y.f0.size ≤ l.length := by
  unfold symR at h
  split at h
  · obtain rfl := Option.some.inj h
    have := (cut_size l [32]).1
    show (Lib.cut l [32]).1.toArray.size ≤ l.length
    rw [List.size_toArray]; exact this
  · cases h
theorem line_cases (l : List UInt8) (n : Nat) : (Lib.hasPrefix l pSym = true ∧ n = 0) ∨ (Lib.hasPrefix l pSym = true ∧ ¬ n = 0) ∨ Lib.hasPrefix l pSym = false := by
  cases Lib.hasPrefix l pSym with
  | true => by_cases h : n = 0 <;> simp [h]
  | false => simp
def lnFun (g : GSt) (s : ByteArray) : Option GSt :=
  if Lib.hasPrefix s.data.toList pFun = true ∧ (Lib.cut (Lib.trimPrefix s.data.toList pFun) [32, 58, 32]).2.2 = true ∧ (Lib.cut (Lib.cut (Lib.trimPrefix s.data.toList pFun) [32, 58, 32]).2.1 [32, 61, 32]).2.2 = true ∧ nameB ⟨(Lib.cut (Lib.trimPrefix s.data.toList pFun) [32, 58, 32]).1.toArray⟩ = true then
    (if (getSR ⟨(Lib.cut (Lib.cut (Lib.trimPrefix s.data.toList pFun) [32, 58, 32]).2.1 [32, 61, 32]).1.toArray⟩).1 = 4 then none
     else some { sy := g.sy, fs := g.fs ++ [⟨⟨(Lib.cut (Lib.trimPrefix s.data.toList pFun) [32, 58, 32]).1.toArray⟩, (getSR ⟨(Lib.cut (Lib.cut (Lib.trimPrefix s.data.toList pFun) [32, 58, 32]).2.1 [32, 61, 32]).1.toArray⟩).2, ⟨0, 0, []⟩⟩], bo := g.bo ++ [⟨(Lib.cut (Lib.cut (Lib.trimPrefix s.data.toList pFun) [32, 58, 32]).2.1 [32, 61, 32]).2.1.toArray⟩], large := g.large || decide ((getSR ⟨(Lib.cut (Lib.cut (Lib.trimPrefix s.data.toList pFun) [32, 58, 32]).2.1 [32, 61, 32]).1.toArray⟩).1 ≠ 0) })
  else none
theorem lnStep_fun0 {g : GSt} {s : ByteArray} (h : ¬ (Lib.hasPrefix s.data.toList pSym = true ∧ g.fs.length = 0)) : lnStep g s = lnFun g s := by
  unfold lnStep lnFun
  simp only
  rw [if_neg h]
theorem info9 : (Tryz.prog.info? 9).map (fun i => (i.zero, i.size, i.bytes)) = some (some (.string ⟨#[]⟩), 1, 16) := by kernel_rfl
theorem bytes_empty {s : ByteArray} (h : s.toList.isEmpty = true) : s = ByteArray.empty := by
  rw [Lib.toList_data] at h
  rcases s with ⟨⟨l⟩⟩
  have : l = [] := List.isEmpty_iff.1 h
  rw [this]; rfl
set_option maxHeartbeats 16000000 in
set_option maxRecDepth 100000 in
theorem get3_calls (t : ByteArray) (w : World) (hm : MX w) : Calls Tryz.prog 19 #[.string t] w (GetE3 t w) := by
  have hmf := run_mkfun3
  have hmm := @run_makeMap Tryz.prog
  have HM := Aside0.mk hm
  have HG := Aside0.mk (GH3.start w)
  have HSZ1 := Aside0.mk (show ((w.alloc (.cells #[.slice none 0 0, .slice none 0 0] 25)).alloc (.cells #[.int .i64 0] 26)).heap.size = w.heap.size + 2 from by simp)
  clear hm
  go_enter_defers Tryz.func19, Tryz.ntmps19
  go_upto_region 1 with (fail)
  generalize ((w.alloc (.cells #[.slice none 0 0, .slice none 0 0] 25)).alloc (.cells #[.int .i64 0] 26)) = W1 at *
  obtain ⟨c0, c1, c3⟩ := (HG.out).cells
  obtain ⟨f0, f1, f3⟩ := (HG.out).frozen
  cases q1 : decide ((t.size : Int) > 65536) with
  | true =>
    have HR := Aside0.mk (show getR3 t = (3, [], []) by unfold getR3; rw [if_pos (by have := of_decide_eq_true q1; omega)])
    have HQ := Aside0.mk (((HG.out).set0 (.slice none 0 0)).set1 (.slice none 0 0))
    go_wp2
    exact get3_ret0 HR.out ((HQ.out).hb.setCell (p := ⟨w.heap.size + 1, 0, none⟩) (Nat.le_succ _) _) (blk_far (HQ.out).ha (by show w.heap.size ≠ w.heap.size + 1; omega) _) (blk_set (HQ.out).he 0 _) _ rfl rfl
  | false =>
  have HSZ := Aside0.mk (show t.size ≤ 65536 by have := of_decide_eq_false q1; omega)
  have HSP := Aside0.mk (split_calls t 10 W1 (by have := HSZ.out; omega) ((HM.out).below (HG.out).hb))
  clear c0 c1 c3 f0 f1 f3
  go_wp2_with fail
  refine (HSP.out).mono ?_
  rintro E w2 ⟨rfl, hw⟩
  clear q1
  have hb := below_alloc (Below.refl W1.heap.size W1) (.cells ((chunks t 10).map Value.string).toArray 9)
  have hbn := blk_new W1 (.cells ((chunks t 10).map Value.string).toArray 9)
  rw [← hw] at hb hbn
  have HG2 := Aside0.mk ((HG.out).below hb)
  have HLB := Aside0.mk hbn
  have HLS := Aside0.mk (show (chunks t 10).length ≤ 65537 from by have := chunks_short t 10; have := HSZ.out; omega)
  have HV1 := Aside0.mk (fun h => getV3_end (t := t) h)
  have HV2 := Aside0.mk (fun h => getV3_lines (t := t) h)
  have HV3 := Aside0.mk (fun h0 g h => getV3_main (t := t) h0 (g := g) h)
  have HCS := Aside0.mk (fun i => chunk_size t 10 i)
  have HBL := Aside0.mk (show w.heap.size + 2 ≤ W1.heap.size from by have := HSZ1.out; omega)
  have hpos := chunks_pos t 10
  clear hw hb hbn HG HSP HSZ1
  generalize chunks t 10 = L at *
  generalize W1.heap.size = bl at *
  have hk := strs_cell HLB.out (show L.length - 1 < L.length by omega)
  generalize hle : L.getD (L.length - 1) ByteArray.empty = le at *
  have HLEE := Aside0.mk hle
  clear hle
  have hz2 : IntKind.i64.wrap ((L.length : Int) - 1) = (L.length : Int) - 1 := by have := HLS.out; simp [IntKind.wrap, IntKind.bits, IntKind.signed]; omega
  cases q3 : le.toList.isEmpty with
  | false =>
    have HN := Aside0.mk (HV1.out (fun e => by rw [e, Lib.toList_data] at q3; revert q3; decide))
    go_wp2
    exact get3_panic (getR3_bad HSZ.out HN.out) HG2.out _ rfl rfl
  | true =>
  have HLE := Aside0.mk (show le = ByteArray.empty from bytes_empty q3)
  go_upto_region 10 with (fail)
  clear hk hz2 q3
  obtain ⟨n, hn⟩ : ∃ n, L.length = n + 1 := ⟨L.length - 1, by omega⟩
  have hlt3 := blk_lt HLB.out
  have HF := Aside0.mk (show FL w (((w2.alloc (.map #[] 0)).alloc (.map #[] 0)).alloc (.cells #[.string ⟨#[]⟩, .map (some w2.heap.size), .map (some (w2.heap.size + 1))] 92)) L bl w2.heap.size (w2.heap.size + 1) (w2.heap.size + 1 + 1) [] [] [] [] [] [] none 0 none 0 none 0 from by
    have b1 := below_alloc (Below.refl w2.heap.size w2) (.map #[] 0)
    have b2 := below_alloc (Below.refl (w2.alloc (.map #[] 0)).heap.size (w2.alloc (.map #[] 0))) (.map #[] 0)
    have b3 := below_alloc (Below.refl ((w2.alloc (.map #[] 0)).alloc (.map #[] 0)).heap.size ((w2.alloc (.map #[] 0)).alloc (.map #[] 0))) (.cells #[.string ⟨#[]⟩, .map (some w2.heap.size), .map (some (w2.heap.size + 1))] 92)
    have hb := below_then (below_then b1 b1.size b2) (below_then b1 b1.size b2).size b3
    have m1 := ((mapIs_new w2 Value.string ki sdom).below b2).below b3
    have m2 := (mapIs_new (w2.alloc (.map #[] 0)) Value.string ki sdom).below b3
    have e1 : (w2.alloc (.map #[] 0)).heap.size = w2.heap.size + 1 := by simp
    have e2 : ((w2.alloc (.map #[] 0)).alloc (.map #[] 0)).heap.size = w2.heap.size + 1 + 1 := by simp
    have hx := blk_new ((w2.alloc (.map #[] 0)).alloc (.map #[] 0)) (.cells #[.string ⟨#[]⟩, .map (some w2.heap.size), .map (some (w2.heap.size + 1))] 92)
    rw [e2] at hx
    rw [e1] at m2
    exact ⟨(HG2.out).below hb, blk_below HLB.out hb, ⟨hx⟩, m1, m2, Kd.R_nil _ _ _ _ _, Kd.R_nil _ _ _ _ _, Kd.R_nil _ _ _ _ _, by have := HBL.out; omega⟩)
  have HLT := Aside0.mk hlt3
  clear hlt3 HG2 HLB HBL hmm
  generalize (((w2.alloc (.map #[] 0)).alloc (.map #[] 0)).alloc (.cells #[.string ⟨#[]⟩, .map (some w2.heap.size), .map (some (w2.heap.size + 1))] 92)) = w3 at *
  generalize w2.heap.size = B at *
  rw [hn] at HV2 HV3 HLEE HLS
  rw [show n + 1 - 1 = n from rfl] at HV2 HV3 HLEE
  have HLL := Aside0.mk hn
  rw [hn, show ((n + 1 : Nat) : Int) = (n : Int) + 1 from by omega, show (n : Int) + 1 - 1 = (n : Int) by omega, show n + 1 - 1 = n from rfl]
  have hz1 : wrap64 (n : Int) = (n : Int) := wr_id (by omega) (by have := HLS.out; omega)
  have hz2 : (0 : Int) ≤ (n : Int) ∧ (n : Int) ≤ (n : Int) + 1 := by omega
  have hz3 : max (n : Int) 0 = (n : Int) := by omega
  clear hn hpos
  go_wp2
  clear hz1 hz2 hz3
  go_loopg [6, 7, 55] n (fun gg v6 v7 v55 wi => ∃ (i : Nat) (G : GSt) (A1 : Option Addr) (c1 : Nat) (A2 : Option Addr) (c2 : Nat) (A3 : Option Addr) (c3 : Nat), i ≤ n ∧ n - i ≤ gg ∧ v6 = .slice A3 G.bo.length c3 ∧ v7 = .bool G.large ∧ v55 = .int .i64 i ∧ Aside0 (lnAll ⟨[], [], [], false⟩ (L.take i) = some G) ∧ Aside0 (G.sy.length + G.fs.length = i ∧ G.bo.length = G.fs.length) ∧ Aside0 (FL w wi L bl B (B + 1) (B + 1 + 1) [] G.sy G.fs G.bo (nmE (G.sy.map (·.f0))) (nmE (G.fs.map (·.f0))) A1 c1 A2 c2 A3 c3))
  case atStart => exact ⟨0, ⟨[], [], [], false⟩, none, 0, none, 0, none, 0, Nat.zero_le _, Nat.le_refl _, rfl, rfl, rfl, ⟨rfl⟩, ⟨rfl, rfl⟩, HF⟩
  case round =>
    clear HF
    obtain ⟨i, G, A1, c1, A2, c2, A3, c3, hi, hgg, rfl, rfl, rfl, HG, HN, HF⟩ := hrel
    by_cases hlt : i < n
    · have hltz : (i : Int) < (n : Int) := by omega
      have HIN := Aside0.mk hlt
      have hk := strs_cell (HF.out).l (show i < L.length by have := HLL.out; omega)
      have HSB := Aside0.mk (HCS.out i)
      have HTK := Aside0.mk (show L.take (i + 1) = L.take i ++ [L.getD i ByteArray.empty] by
        have hi2 : i < L.length := by have := HLL.out; omega
        rw [List.take_succ_eq_append_getElem hi2, List.getD_eq_getElem?_getD, List.getElem?_eq_getElem hi2]; rfl)
      generalize L.getD i ByteArray.empty = s at *
      have HSTEP := Aside0.mk (show lnAll ⟨[], [], [], false⟩ (L.take (i + 1)) = lnStep G s by rw [HTK.out, lnAll_snoc, HG.out]; rfl)
      have HBAD := Aside0.mk (fun (h : lnStep G s = none) => getR3_bad HSZ.out (HV2.out (lnAll_none HIN.out (by have := HLL.out; omega) (HSTEP.out.trans h))))
      have HKZ := Aside0.mk (show wrap64 ((i : Int) + 1) = ((i + 1 : Nat) : Int) by rw [wr_id (by omega) (by have := HLS.out; omega)]; rfl)
      clear HTK
      have HP1 := Aside0.mk (fun (W1 : World) => Tryz.strings_CutPrefix s ⟨#[115, 121, 109, 98, 111, 108, 32]⟩ W1)
      rw [show (ByteArray.mk #[115, 121, 109, 98, 111, 108, 32]).data.toList = pSym from rfl] at HP1
      go_wp2_with fail
      refine (HP1.out _).mono ?_
      rintro E w4 ⟨rfl, hw⟩
      subst hw
      have g1 := (HF.out).g.cells.2.1
      rcases line_cases s.data.toList G.fs.length with ⟨q1, hfz⟩ | ⟨q1, hfz⟩ | q1
      · · have hfzz : (G.fs.length : Int) = 0 := by omega
          have hsz : (ByteArray.mk (Lib.trimPrefix s.data.toList pSym).toArray).size ≤ 70000 := by
            show (Lib.trimPrefix s.data.toList pSym).toArray.size ≤ 70000
            rw [List.size_toArray]
            have := trim_len s.data.toList pSym
            rw [← Lib.size_eq] at this
            have := HSB.out; have := HSZ.out
            omega
          have HSY := Aside0.mk (symbol_calls ⟨(Lib.trimPrefix s.data.toList pSym).toArray⟩ w4 hsz ((HM.out).below (HF.out).hb))
          rw [show (ByteArray.mk (Lib.trimPrefix s.data.toList pSym).toArray).data.toList = Lib.trimPrefix s.data.toList pSym from rfl] at HSY
          have HLN := Aside0.mk (show lnStep G s = (symR (Lib.trimPrefix s.data.toList pSym)).map fun y => { G with sy := G.sy ++ [y] } by unfold lnStep; simp only; rw [if_pos ⟨q1, hfz⟩])
          have HFZ := Aside0.mk hfz
          have HLX := Aside0.mk (show (Lib.trimPrefix s.data.toList pSym).length ≤ s.size from by have := trim_len s.data.toList pSym; rw [← Lib.size_eq] at this; exact this)
          clear hsz
          generalize Lib.trimPrefix s.data.toList pSym = lx at *
          go_wp2_with fail
          refine (HSY.out).mono ?_
          rintro E w5 ⟨hb, hE⟩
          have HF5 := Aside0.mk ((HF.out).below hb)
          clear hb HSY HF hk g1
          rcases hE with ⟨hn, rfl⟩ | ⟨y, hy, rfl⟩
          · have HX := Aside0.mk (HBAD.out (by rw [HLN.out, hn]; rfl))
            clear hn q1 hfz hfzz
            unfold pwrong
            go_wp2
            exact get3_panic HX.out (HF5.out).g _ rfl rfl
          · have HGO := Aside0.mk (show lnStep G s = some { G with sy := G.sy ++ [y] } by rw [HLN.out, hy]; rfl)
            have HYZ := Aside0.mk (show y.f0.size ≤ 70000 by have := symR_size hy; have := HSB.out; have := HSZ.out; have := HLX.out; omega)
            have HSN := Aside0.mk (show (G.sy ++ [y]).map (·.f0) = G.sy.map (·.f0) ++ [y.f0] by simp)
            have HSL := Aside0.mk (show G.sy.length ≤ 70000 from by have := (HN.out).1; have := HLS.out; have := HIN.out; omega)
            clear hy q1 hfz hfzz HLN HBAD
            go_upto_region 16 with (fail)
            have HX6 := Aside0.mk (blk_new w5 (.cells #[.string y.f0, .int .i64 y.f1] 71))
            have HF6 := Aside0.mk ((HF5.out).below (below_alloc (Below.refl w5.heap.size w5) (.cells #[.string y.f0, .int .i64 y.f1] 71)))
            have hb6 := (HF5.out).lt
            clear HF5
            generalize (w5.alloc (.cells #[.string y.f0, .int .i64 y.f1] 71)) = w6 at *
            have HBY := Aside0.mk (show B + 1 + 1 < w5.heap.size ∧ w.heap.size + 2 ≤ B from ⟨hb6, by have := (HF6.out).n; omega⟩)
            clear hb6
            generalize w5.heap.size = by_ at *
            have hq1 := (HF6.out).rt.cells.2.1
            have x0 : w6.cell? ⟨by_, 0, none⟩ = some (.string y.f0) := (blk_cell HX6.out 0).trans rfl
            have HDOM := Aside0.mk (show sdom y.f0 from by unfold sdom maxLen; have := HYZ.out; omega)
            have hl : ∀ m, _ := fun m => MapIs.look ((HF6.out).m1.below (pw_below_drewN (Below.refl _ _) m)) keyStr Tryz.underlying90 (zero3 (w6.drewN m)) HDOM.out true
            cases qm : mget y.f0 (nmE (G.sy.map (·.f0))) with
            | none =>
              rw [qm] at hl
              simp only [if_true] at hl
              have HQM := Aside0.mk qm
              clear qm
              go_quiet (fail)
              have HF7 := Aside0.mk ((HF6.out).below (pw_below_drewN (Below.refl w6.heap.size w6) nq))
              have HX7 := Aside0.mk (blk_below HX6.out (pw_below_drewN (Below.refl w6.heap.size w6) nq))
              clear HF6 HX6 hq1 x0 hl
              generalize w6.drewN nq = w7 at *
              go_upto_region 18 with (fail)
              have hq1 := (HF7.out).rt.cells.2.1
              have x0 : w7.cell? ⟨by_, 0, none⟩ = some (.string y.f0) := (blk_cell HX7.out 0).trans rfl
              have d0 := (HF7.out).g.cells.1
              refine wp_region_still_tail 9 (by kernel_rfl) (by kernel_rfl) ?_
              simp only [List.take_succ_cons, List.take_zero, List.drop_succ_cons, List.drop_zero]
              repeat (refine wpStill_step (fun K hK => ?_); go_simp; refine hK _ ?_; clear hK K)
              refine wpStill_nil ?_
              change wpList _ _ _ _ _ w7.drew
              clear hq1 x0 d0
              have HF7d := Aside0.mk ((HF7.out).below (below_drew (Below.refl _ _)))
              have HX7d := Aside0.mk (blk_below HX7.out (below_drew (Below.refl _ _)))
              clear HF7 HX7
              generalize w7.drew = w7d at *
              obtain ⟨W8, hput, hm8, hg8⟩ := MapIs.put (HF7d.out).m1 keyStr Tryz.underlying90 HDOM.out (G.sy.length : Int)
              rw [show (G.sy.length : Int) = ((G.sy.map (·.f0)).length : Int) by rw [List.length_map], nmE_put HQM.out, ← HSN.out] at hm8
              unfold ki at hput
              have HF8 := Aside0.mk ((HF7d.out).put1 hm8 hg8)
              have HX8 := Aside0.mk (blk_grown HX7d.out hg8 (fun e => by have := Option.some.inj e; have := (HBY.out).1; omega))
              clear hm8 hg8 HF7d HX7d
              have HLE7 := Aside0.mk (show (G.sy.length + 1) * 24 ≤ 140737488355328 by have := HSL.out; omega)
              have d0 := (HF8.out).g.cells.1
              have x0 : W8.cell? ⟨by_, 0, none⟩ = some (.string y.f0) := (blk_cell HX8.out 0).trans rfl
              have x1 : W8.cell? ⟨by_, 1, none⟩ = some (.int .i64 y.f1) := (blk_cell HX8.out 1).trans rfl
              clear HX8
              go_wp2_with ((with_reducible refine gate_builtin (b := .append) (xs := #[.tmp 95, .tmp 97]) rfl ?_); at_builtin; refine Kd.R_append k71 (w0 := w) w.heap.size rfl (.tmp 95) (.tmp 97) 22 71 (.agg #[.string ⟨#[]⟩, .int .i64 0]) 24 rfl Tryz.underlying22 Q.info71 rfl (show 0 < 2 by decide) (by decide) (.slice A1 G.sy.length c1) G.sy y [.string y.f0, .int .i64 y.f1] (fun k => B + 1 + 1 < k) (fun _ => False) rfl rfl (Q.k71_mkM _ _ _ y) (fun _ hk => hk.elim) (fun k hk => Nat.lt_of_lt_of_le (HF8.out).lt hk) (HF8.out).r1 (HF8.out).hb (HF8.out).hb.size HLE7.out ?_; intro v9 w9 ho5 hb5 hg5 hat5; (obtain ⟨A9, c9, rfl⟩ := Kd.R_slice ho5); have HF9 := Aside0.mk ((HF8.out).push1 ho5 hb5 hg5); have hGG := (HF8.out).g.grown hb5 hg5 (fun k hk => by have := (HF8.out).r1.1 k hk; have := (HF8.out).n; omega); have c6 := hGG.cells.1; have f6 := hGG.frozen.1; clear hGG ho5 hb5 hg5 hat5)
              go_roundg (n - (i + 1))
              case measure => have := HIN.out; omega
              case rel => exact ⟨i + 1, { G with sy := G.sy ++ [y] }, A9, c9, A2, c2, A3, c3, HIN.out, Nat.le_refl _, rfl, rfl, by rw [HKZ.out], ⟨HSTEP.out.trans HGO.out⟩, ⟨by show (G.sy ++ [y]).length + G.fs.length = i + 1; have := (HN.out).1; rw [List.length_append, List.length_singleton]; omega, (HN.out).2⟩, HF9⟩
            | some v0 =>
              rw [qm] at hl
              simp only [if_true] at hl
              unfold ki at hl
              have HKE := Aside0.mk (nmE_keep qm)
              rw [← HSN.out] at HKE
              clear qm
              go_quiet (fail)
              have HF8 := (HF6.out).below (pw_below_drewN (Below.refl w6.heap.size w6) nq)
              rw [HKE.out] at HF8
              have HF8 := Aside0.mk HF8
              have HX8 := Aside0.mk (blk_below HX6.out (pw_below_drewN (Below.refl w6.heap.size w6) nq))
              clear HF6 HX6 hq1 x0 hl HKE
              generalize w6.drewN nq = W8 at *
              have HLE7 := Aside0.mk (show (G.sy.length + 1) * 24 ≤ 140737488355328 by have := HSL.out; omega)
              have d0 := (HF8.out).g.cells.1
              have x0 : W8.cell? ⟨by_, 0, none⟩ = some (.string y.f0) := (blk_cell HX8.out 0).trans rfl
              have x1 : W8.cell? ⟨by_, 1, none⟩ = some (.int .i64 y.f1) := (blk_cell HX8.out 1).trans rfl
              clear HX8
              go_wp2_with ((with_reducible refine gate_builtin (b := .append) (xs := #[.tmp 95, .tmp 97]) rfl ?_); at_builtin; refine Kd.R_append k71 (w0 := w) w.heap.size rfl (.tmp 95) (.tmp 97) 22 71 (.agg #[.string ⟨#[]⟩, .int .i64 0]) 24 rfl Tryz.underlying22 Q.info71 rfl (show 0 < 2 by decide) (by decide) (.slice A1 G.sy.length c1) G.sy y [.string y.f0, .int .i64 y.f1] (fun k => B + 1 + 1 < k) (fun _ => False) rfl rfl (Q.k71_mkM _ _ _ y) (fun _ hk => hk.elim) (fun k hk => Nat.lt_of_lt_of_le (HF8.out).lt hk) (HF8.out).r1 (HF8.out).hb (HF8.out).hb.size HLE7.out ?_; intro v9 w9 ho5 hb5 hg5 hat5; (obtain ⟨A9, c9, rfl⟩ := Kd.R_slice ho5); have HF9 := Aside0.mk ((HF8.out).push1 ho5 hb5 hg5); have hGG := (HF8.out).g.grown hb5 hg5 (fun k hk => by have := (HF8.out).r1.1 k hk; have := (HF8.out).n; omega); have c6 := hGG.cells.1; have f6 := hGG.frozen.1; clear hGG ho5 hb5 hg5 hat5)
              go_roundg (n - (i + 1))
              case measure => have := HIN.out; omega
              case rel => exact ⟨i + 1, { G with sy := G.sy ++ [y] }, A9, c9, A2, c2, A3, c3, HIN.out, Nat.le_refl _, rfl, rfl, by rw [HKZ.out], ⟨HSTEP.out.trans HGO.out⟩, ⟨by show (G.sy ++ [y]).length + G.fs.length = i + 1; have := (HN.out).1; rw [List.length_append, List.length_singleton]; omega, (HN.out).2⟩, HF9⟩
      all_goals
        have HLN := Aside0.mk (lnStep_fun0 (g := G) (s := s) (by first | exact fun x => hfz x.2 | exact fun x => by rw [q1] at x; exact Bool.false_ne_true x.1))
        have HP2 := Aside0.mk (fun (W1 : World) => Tryz.strings_CutPrefix s ⟨#[102, 117, 110, 32]⟩ W1)
        rw [show (ByteArray.mk #[102, 117, 110, 32]).data.toList = pFun from rfl] at HP2
        try (have hfzz : ((G.fs.length : Int) == 0) = false := by simpa using hfz)
        have HTL := Aside0.mk (show (Lib.trimPrefix s.data.toList pFun).length ≤ 65536 from by have := trim_len s.data.toList pFun; rw [← Lib.size_eq] at this; have := HSB.out; have := HSZ.out; omega)
        unfold lnFun at HLN
        go_wp2_with fail
        refine (HP2.out _).mono ?_
        rintro E w5 ⟨rfl, hw⟩
        subst hw
        clear HP1 HP2 q1
        try clear hfzz
        try clear hfz
        generalize Lib.trimPrefix s.data.toList pFun = l0 at *
        generalize Lib.hasPrefix s.data.toList pFun = b0 at *
        have HC1 := Aside0.mk (cut_calls ⟨l0.toArray⟩ ⟨#[32, 58, 32]⟩ w5 (by show l0.toArray.size ≤ 70000; rw [List.size_toArray]; have := HTL.out; omega) ((HM.out).below (HF.out).hb))
        rw [show (ByteArray.mk l0.toArray).data.toList = l0 from rfl, show (ByteArray.mk #[32, 58, 32]).data.toList = [32, 58, 32] from rfl] at HC1
        have HC1S := Aside0.mk (cut_size l0 [32, 58, 32])
        clear hk g1
        generalize (Lib.cut l0 [32, 58, 32]).2.2 = b1 at *
        generalize (Lib.cut l0 [32, 58, 32]).2.1 = l1 at *
        generalize (Lib.cut l0 [32, 58, 32]).1 = n0 at *
        go_wp2_with fail
        refine (HC1.out).mono ?_
        rintro E w6 ⟨rfl, hb⟩
        have HF6 := Aside0.mk ((HF.out).below hb)
        clear hb HF HC1
        have HC2 := Aside0.mk (cut_calls ⟨l1.toArray⟩ ⟨#[32, 61, 32]⟩ w6 (by show l1.toArray.size ≤ 70000; rw [List.size_toArray]; have := HTL.out; have := HC1S.out; omega) ((HM.out).below (HF6.out).hb))
        rw [show (ByteArray.mk l1.toArray).data.toList = l1 from rfl, show (ByteArray.mk #[32, 61, 32]).data.toList = [32, 61, 32] from rfl] at HC2
        have HC2S := Aside0.mk (cut_size l1 [32, 61, 32])
        generalize (Lib.cut l1 [32, 61, 32]).2.2 = b2 at *
        generalize (Lib.cut l1 [32, 61, 32]).2.1 = l2 at *
        generalize (Lib.cut l1 [32, 61, 32]).1 = so at *
        have HZO := Aside0.mk (show (ByteArray.mk so.toArray).size ≤ 65536 from by show so.toArray.size ≤ 65536; rw [List.size_toArray]; have := HTL.out; have := (HC1S.out).2; have := (HC2S.out).1; omega)
        have HZN := Aside0.mk (show (ByteArray.mk n0.toArray).size ≤ 65536 from by show n0.toArray.size ≤ 65536; rw [List.size_toArray]; have := HTL.out; have := (HC1S.out).1; omega)
        clear HTL HC1S HC2S
        go_wp2_with fail
        refine (HC2.out).mono ?_
        rintro E w7 ⟨rfl, hb⟩
        have HF7 := Aside0.mk ((HF6.out).below hb)
        clear hb HF6 HC2
        generalize (ByteArray.mk n0.toArray) = nm at *
        generalize (ByteArray.mk so.toArray) = sb at *
        generalize (ByteArray.mk l2.toArray) = bt2 at *
        cases b0 with
        | false =>
          have HX := Aside0.mk (HBAD.out (by rw [HLN.out, if_neg (fun x => Bool.false_ne_true x.1)]))
          go_wp2
          exact get3_panic HX.out (HF7.out).g _ rfl rfl
        | true =>
        cases b1 with
        | false =>
          have HX := Aside0.mk (HBAD.out (by rw [HLN.out, if_neg (fun x => Bool.false_ne_true x.2.1)]))
          go_wp2
          exact get3_panic HX.out (HF7.out).g _ rfl rfl
        | true =>
        cases b2 with
        | false =>
          have HX := Aside0.mk (HBAD.out (by rw [HLN.out, if_neg (fun x => Bool.false_ne_true x.2.2.1)]))
          go_wp2
          exact get3_panic HX.out (HF7.out).g _ rfl rfl
        | true =>
        have HNM := Aside0.mk (name_calls nm w7)
        go_wp2_with fail
        refine (HNM.out).mono ?_
        rintro E w8 ⟨rfl, hb⟩
        have HF8 := Aside0.mk ((HF7.out).below hb)
        clear hb HF7 HNM
        cases qn : nameB nm with
        | false =>
          have HX := Aside0.mk (HBAD.out (by rw [HLN.out, if_neg (fun x => by rw [qn] at x; exact Bool.false_ne_true x.2.2.2)]))
          clear qn
          go_wp2
          exact get3_panic HX.out (HF8.out).g _ rfl rfl
        | true =>
        have HLN2 := Aside0.mk (show lnStep G s = (if (getSR sb).1 = 4 then none else some { sy := G.sy, fs := G.fs ++ [⟨nm, (getSR sb).2, ⟨0, 0, []⟩⟩], bo := G.bo ++ [bt2], large := G.large || decide ((getSR sb).1 ≠ 0) }) by rw [HLN.out, if_pos ⟨by first | trivial | rfl, by first | trivial | rfl, by first | trivial | rfl, qn⟩])
        clear HLN qn
        have HGS := Aside0.mk (gets_calls sb w8)
        unfold GetSE at HGS
        generalize (getSR sb).1 = er at *
        generalize (getSR sb).2 = srt at *
        go_wp2_with fail
        refine (HGS.out).mono ?_
        rintro E w9 ⟨A9, c9, rfl, hR, hb⟩
        have HF9 := Aside0.mk ((HF8.out).below hb)
        have HR9 := Aside0.mk (Kd.R_new' hR (Kd.R_lt (HF8.out).r2))
        have HSZ8 := Aside0.mk (show B + 1 + 1 < w8.heap.size ∧ w.heap.size ≤ w8.heap.size from ⟨(HF8.out).lt, (HF8.out).hb.size⟩)
        have HSZ9 := Aside0.mk hb.size
        clear hb hR HF8 HGS
        go_upto_region 26 with (fail)
        have bx := below_alloc (Below.refl w9.heap.size w9) (.cells #[.slice A9 srt.f0.length c9] 47)
        have HX10 := Aside0.mk (blk_new w9 (.cells #[.slice A9 srt.f0.length c9] 47))
        have HF10 := Aside0.mk ((HF9.out).below bx)
        have HR10 := Aside0.mk (Kd.R_lower (base' := w.heap.size) (Kd.R_mono (ok' := fun k => B + 1 + 1 < k ∧ some k ≠ (Value.slice A2 G.fs.length c2).ownBlock) (Kd.R_below HR9.out bx) (fun k hk => ⟨by have := HSZ8.out; omega, hk.2⟩)) (HSZ8.out).2)
        have HBX := Aside0.mk (show B + 1 + 1 < w9.heap.size from by have := HSZ8.out; have := HSZ9.out; omega)
        clear bx HF9 HR9 HSZ8 HSZ9
        generalize (w9.alloc (.cells #[.slice A9 srt.f0.length c9] 47)) = w10 at *
        generalize w9.heap.size = bx at *
        by_cases h4 : er = 4
        · have HX := Aside0.mk (HBAD.out (by rw [HLN2.out, if_pos h4]))
          subst h4
          go_wp2
          exact get3_panic HX.out (HF10.out).g _ rfl rfl
        · have HGO := Aside0.mk (HLN2.out.trans (if_neg h4))
          have h4z : (er == 4) = false := by simpa using h4
          have HFSL := Aside0.mk (show G.fs.length ≤ 70000 from by have := (HN.out).1; have := HLS.out; have := HIN.out; omega)
          clear HLN2 HBAD
          go_upto_region 28 with (fail)
          clear h4 h4z
          generalize hlv : (G.large || decide (er ≠ 0)) = lg at *
          have HLG := Aside0.mk hlv
          clear hlv
          go_cut [7] from 57 to 178 (fun v7 wx => v7 = .bool lg ∧ wx = w10)
          case first =>
            cases hlg : G.large with
            | true =>
              go_wp2
              go_meet
              exact ⟨by rw [← HLG.out, hlg]; rfl, rfl⟩
            | false =>
              by_cases h0 : er = 0
              · subst h0
                go_wp2
                go_meet
                exact ⟨by rw [← HLG.out, hlg]; rfl, rfl⟩
              · have h0z : (er == 0) = false := by simpa using h0
                have h0y : (er != 0) = true := by simpa using h0
                go_wp2
                go_meet
                exact ⟨by rw [← HLG.out, hlg, decide_eq_true h0]; rfl, rfl⟩
          case rest =>
          obtain ⟨e7, ew⟩ := hcut
          replace ew := ew.symm
          subst ew
          subst e7
          have hq1 := (HF10.out).rt.cells.2.2
          have HDOM := Aside0.mk (show sdom nm from by unfold sdom maxLen; have := HZN.out; omega)
          have hl : (Instr.lookup 90 (.map (some (B + 1))) (.string nm) true).run Tryz.prog w10 = .ok (.tuple #[.int .i64 ((mget nm (nmE (G.fs.map (·.f0)))).getD 0), .bool (mget nm (nmE (G.fs.map (·.f0)))).isSome]) w10 := by
            have h := MapIs.look (HF10.out).m2 keyStr Tryz.underlying90 (zero3 w10) HDOM.out true
            rw [h]
            cases mget nm (nmE (G.fs.map (·.f0))) with
            | none => rfl
            | some v => rfl
          have HQN := Aside0.mk (fun (h : (mget nm (nmE (G.fs.map (·.f0)))).isSome = false) => (show mget nm (nmE (G.fs.map (·.f0))) = none from by cases e : mget nm (nmE (G.fs.map (·.f0))) with | none => rfl | some v => rw [e] at h; cases h))
          have HQS := Aside0.mk (fun (h : (mget nm (nmE (G.fs.map (·.f0)))).isSome = true) => (show ∃ v, mget nm (nmE (G.fs.map (·.f0))) = some v from Option.isSome_iff_exists.1 h))
          generalize (mget nm (nmE (G.fs.map (·.f0)))).isSome = bs at *
          generalize (mget nm (nmE (G.fs.map (·.f0)))).getD 0 = vs at *
          have HSN := Aside0.mk (show (G.fs ++ [(⟨nm, srt, ⟨0, 0, []⟩⟩ : S52)]).map (·.f0) = G.fs.map (·.f0) ++ [nm] by simp)
          go_upto_if 158 with (fail)
          clear hq1 hl
          have HF11 := HF10
          have HX11 := HX10
          have HR11 := HR10
          clear HF10 HX10 HR10
          generalize w10 = w11 at *
          go_cut [] from 57 to 178 (fun wx => Aside0 (FL w wx L bl B (B + 1) (B + 1 + 1) [] G.sy G.fs G.bo (nmE (G.sy.map (·.f0))) (nmE ((G.fs ++ [(⟨nm, srt, ⟨0, 0, []⟩⟩ : S52)]).map (·.f0))) A1 c1 A2 c2 A3 c3) ∧ Aside0 (wx.heap[bx]? = some (.cells #[.slice A9 srt.f0.length c9] 47 (0, 0))) ∧ Aside0 (Kd.R k47 47 wx w.heap.size (fun k => B + 1 + 1 < k ∧ some k ≠ (Value.slice A2 G.fs.length c2).ownBlock) (.slice A9 srt.f0.length c9) srt.f0))
          case first =>
            cases bs with
            | true =>
              obtain ⟨v, hv⟩ := HQS.out rfl
              have HKE := Aside0.mk (nmE_keep hv)
              rw [← HSN.out] at HKE
              have HF12 := HF11.out
              rw [HKE.out] at HF12
              have HF12 := Aside0.mk HF12
              clear hv
              go_wp2
              go_meet
              exact ⟨HF12, HX11, HR11⟩
            | false =>
              have HQM := Aside0.mk (HQN.out rfl)
              go_upto_region 31 with (fail)
              have hq1 := (HF11.out).rt.cells.2.2
              have d0 := (HF11.out).g.cells.2.1
              refine wp_region_still_tail 8 (by kernel_rfl) (by kernel_rfl) ?_
              simp only [List.take_succ_cons, List.take_zero, List.drop_succ_cons, List.drop_zero]
              repeat (refine wpStill_step (fun K hK => ?_); go_simp; refine hK _ ?_; clear hK K)
              refine wpStill_nil ?_
              change wpList _ _ _ _ _ w11.drew
              clear hq1 d0
              have HF7d := Aside0.mk ((HF11.out).below (below_drew (Below.refl _ _)))
              have HX7d := Aside0.mk (blk_below HX11.out (below_drew (Below.refl _ _)))
              have HR7d := Aside0.mk (Kd.R_below HR11.out (below_drew (Below.refl _ _)))
              clear HF11 HX11 HR11
              generalize w11.drew = w7d at *
              obtain ⟨W8, hput, hm8, hg8⟩ := MapIs.put (HF7d.out).m2 keyStr Tryz.underlying90 HDOM.out (G.fs.length : Int)
              rw [show (G.fs.length : Int) = ((G.fs.map (·.f0)).length : Int) by rw [List.length_map], nmE_put HQM.out, ← HSN.out] at hm8
              unfold ki at hput
              have HF8 := Aside0.mk ((HF7d.out).put2 hm8 hg8)
              have HX8 := Aside0.mk (blk_grown HX7d.out hg8 (fun e => by have := Option.some.inj e; have := HBX.out; omega))
              have HR8 := Aside0.mk (Kd.R_grown HR7d.out hg8 (fun k hk e => by have := Option.some.inj e; have := hk.1; omega))
              clear hm8 hg8 HF7d HX7d HR7d
              go_wp2
              go_meet
              exact ⟨HF8, HX8, HR8⟩
          case rest =>
          clear HF11 HX11 HR11 HQN HQS
          obtain ⟨HF12, HX12, HR12⟩ := hcut
          generalize wc = wx at *
          have x0 : wx.cell? ⟨bx, 0, none⟩ = some (.slice A9 srt.f0.length c9) := (blk_cell HX12.out 0).trans rfl
          have d1 := (HF12.out).g.cells.2.1
          have HLE7 := Aside0.mk (show (G.fs.length + 1) * 80 ≤ 140737488355328 by have := HFSL.out; omega)
          have HLE8 := Aside0.mk (show (G.bo.length + 1) * 16 ≤ 140737488355328 by have := HFSL.out; have := (HN.out).2; omega)
          have hbx0 := HBX.out
          clear HX12
          go_wp2_with (first
            | ((with_reducible refine gate_builtin (b := .append) (xs := #[.tmp 168, .tmp 172]) rfl ?_); at_builtin; refine Kd.R_append k52 (w0 := w) w.heap.size rfl (.tmp 168) (.tmp 172) 23 52 (.agg #[.string ⟨#[]⟩, .slice none 0 0, .int .i64 0, .int .i64 0, .slice none 0 0]) 80 rfl Tryz.underlying23 Q.info52 rfl (show 0 < 5 by decide) (by decide) (.slice A2 G.fs.length c2) G.fs ⟨nm, srt, ⟨0, 0, []⟩⟩ [.string nm, .slice A9 srt.f0.length c9, .int .i64 0, .int .i64 0, .slice none 0 0] (fun k => B + 1 + 1 < k) (fun k => B + 1 + 1 < k ∧ some k ≠ (Value.slice A2 G.fs.length c2).ownBlock) rfl rfl (Q.k52_mkM _ _ _ ⟨nm, srt, ⟨0, 0, []⟩⟩ HR12.out (Kd.R_nil _ _ _ _ _)) (fun _ hk => hk) (fun k hk => Nat.lt_of_lt_of_le (HF12.out).lt hk) (HF12.out).r2 (HF12.out).hb (HF12.out).hb.size HLE7.out ?_; intro v13 w13 ho5 hb5 hg5 hat5; (obtain ⟨A5, c5, rfl⟩ := Kd.R_slice ho5); have HF13 := Aside0.mk ((HF12.out).push2 ho5 hb5 hg5); have hGG := (HF12.out).g.grown hb5 hg5 (fun k hk => by have := (HF12.out).r2.1 k hk; have := (HF12.out).n; omega); have c6 := hGG.cells.2.1; have f6 := hGG.frozen.2.1; clear hGG ho5 hb5 hg5 hat5)
            | ((with_reducible refine gate_builtin (b := .append) (xs := #[.tmp 175, .tmp 177]) rfl ?_); at_builtin; refine Kd.R_append Kd.string (w0 := w) w.heap.size rfl (.tmp 175) (.tmp 177) 87 9 (.string ⟨#[]⟩) 16 rfl Tryz.underlying87 info9 rfl (show 0 < 1 by decide) (by decide) (.slice A3 G.bo.length c3) G.bo bt2 [.string bt2] (fun k => B + 1 + 1 < k) (fun _ => False) rfl (by first | rfl | (show Value.slice (some ⟨w13.heap.size, 0, none⟩) 1 1 = _; simp; done) | (show Value.slice (some ⟨w13.heap.size, 0, none⟩) 1 1 = _; simp [World.setCell]; done)) rfl (fun _ hk => hk.elim) (fun k hk => Nat.lt_of_lt_of_le (HF13.out).lt hk) (HF13.out).r3 (HF13.out).hb (HF13.out).hb.size HLE8.out ?_; intro v15 w15 ho5 hb5 hg5 hat5; (obtain ⟨A6, c6, rfl⟩ := Kd.R_slice ho5); have HF15 := Aside0.mk ((HF13.out).push3 ho5 hb5 hg5); clear ho5 hb5 hg5 hat5)
            | fail)
          go_roundg (n - (i + 1))
          case measure => have := HIN.out; omega
          case rel => exact ⟨i + 1, { sy := G.sy, fs := G.fs ++ [⟨nm, srt, ⟨0, 0, []⟩⟩], bo := G.bo ++ [bt2], large := lg }, A1, c1, A5, c5, A6, c6, HIN.out, Nat.le_refl _, by show _ = Value.slice A6 (G.bo ++ [bt2]).length c6; rw [List.length_append]; rfl, rfl, by rw [HKZ.out], ⟨HSTEP.out.trans HGO.out⟩, ⟨by show G.sy.length + (G.fs ++ [_]).length = i + 1; have := (HN.out).1; rw [List.length_append, List.length_singleton]; omega, by show (G.bo ++ [bt2]).length = (G.fs ++ [_]).length; have := (HN.out).2; rw [List.length_append, List.length_append, List.length_singleton, List.length_singleton]; omega⟩, HF15⟩
    · obtain rfl : n = i := by omega
      have HVV := Aside0.mk (HV3.out HLE.out G HG.out)
      have HLS2 := Aside0.mk (show G.bo.length ≤ 70000 from by have := (HN.out).1; have := (HN.out).2; have := HLS.out; omega)
      have HNB := Aside0.mk (HN.out).2
      have HBZ := Aside0.mk (lnAll_bo (m := 65536) _ _ _ (fun s hs => by
        obtain ⟨q, hq, rfl⟩ := List.getElem_of_mem (List.mem_of_mem_take hs)
        have h1 := HCS.out q
        rw [List.getD_eq_getElem?_getD, List.getElem?_eq_getElem hq] at h1
        have := HSZ.out
        simp only [Option.getD_some] at h1
        omega) (by simp) HG.out)
      clear HV1 HV2 HV3 HG HN hi hgg hlt HCS HLEE HLE HLL HLT hmf
      go_wp2
      go_loopg [182] G.bo.length (fun gg v182 wi => ∃ (j : Nat) (dn : List S52), j ≤ G.bo.length ∧ G.bo.length - j ≤ gg ∧ v182 = .int .i64 j ∧ Aside0 (dn.length = j) ∧ Aside0 (boAll (nmE (G.sy.map (·.f0))) (nmE (G.fs.map (·.f0))) G.fs G.bo = (boAll (nmE (G.sy.map (·.f0))) (nmE (G.fs.map (·.f0))) (G.fs.drop j) (G.bo.drop j)).map (dn ++ ·)) ∧ Aside0 (FL w wi L bl B (B + 1) (B + 1 + 1) [] G.sy (dn ++ G.fs.drop j) G.bo (nmE (G.sy.map (·.f0))) (nmE (G.fs.map (·.f0))) A1 c1 A2 c2 A3 c3))
      case atStart => exact ⟨0, [], Nat.zero_le _, Nat.le_refl _, rfl, ⟨rfl⟩, ⟨by simp⟩, HF⟩
      case round =>
        clear HF
        obtain ⟨j, dn, hj, hgg, rfl, HDN, HBO, HF⟩ := hrel
        by_cases hlt : j < G.bo.length
        · have hltz : (j : Int) < (G.bo.length : Int) := by omega
          have HLT := Aside0.mk hlt
          have HNX := Aside0.mk (boAll_next (e1 := nmE (G.sy.map (·.f0))) (e2 := nmE (G.fs.map (·.f0))) hlt HNB.out HDN.out)
          have HSX := Aside0.mk (fun x => set_next (fs := G.fs) HDN.out (by have := HNB.out; omega) x)
          have HGX := Aside0.mk (get_next (fs := G.fs) HDN.out (by have := HNB.out; omega))
          have HFLN := Aside0.mk (show (dn ++ G.fs.drop j).length = G.fs.length by have := HDN.out; have := HNB.out; rw [List.length_append, List.length_drop]; omega)
          have HKZ := Aside0.mk (show wrap64 ((j : Int) + 1) = ((j + 1 : Nat) : Int) by rw [wr_id (by omega) (by have := HLS2.out; omega)]; rfl)
          have HBS := Aside0.mk (show (G.bo.getD j ByteArray.empty).size ≤ 65536 from (HBZ.out) _ (by rw [List.getD_eq_getElem?_getD, List.getElem?_eq_getElem hlt]; exact List.getElem_mem hlt))
          obtain ⟨g3, cap3, e3, _⟩ := Kd.R_form (HF.out).r3 (show 0 < G.bo.length by omega)
          injection e3 with e31 _ e33
          subst e31
          subst e33
          have hk : wr.cell? ⟨g3, j, none⟩ = some (.string (G.bo.getD j ByteArray.empty)) := (Kd.R_celln ByteArray.empty (HF.out).r3 (j : Int) (by omega) hltz).1
          generalize G.bo.getD j ByteArray.empty = bj at *
          have hdl : 0 < (dn ++ G.fs.drop j).length := by have := HFLN.out; have := HNB.out; omega
          obtain ⟨g2, cap2, e2, _⟩ := Kd.R_form (HF.out).r2 hdl
          injection e2 with e21 _ e23
          subst e21
          subst e23
          generalize hF0 : dn ++ G.fs.drop j = F at *
          have hb0 := (HF.out).rt.cells.1.1
          have hb1 := (HF.out).rt.cells.1.2
          go_upto_region 39 with (fail)
          have HF2 := Aside0.mk ((HF.out).setT bj)
          clear hb0 hb1 hk hdl HF
          generalize wr.setCell ⟨B + 1 + 1, 0, none⟩ (.string bj) = w5 at *
          have hd := below_drew (Below.refl w5.heap.size w5)
          have HFD := Aside0.mk ((HF2.out).below hd)
          have HTM := Aside0.mk (rtm_calls (B + 1 + 1) B (B + 1) (nmE (G.sy.map (·.f0))) (nmE (G.fs.map (·.f0))) 70000 bj.data.toList w5.drew (by rw [← Lib.size_eq]; have := HBS.out; omega) (Nat.le_refl _) (HFD.out).rm)
          have HOLD := Aside0.mk (HF2.out).g.cells.2.1
          cases qt : tmR (nmE (G.sy.map (·.f0))) (nmE (G.fs.map (·.f0))) bj.data.toList with
          | none =>
            have HX := Aside0.mk (getR3_bad HSZ.out (HVV.out.trans (by rw [HBO.out, HNX.out, qt]; rfl)))
            have HC := Aside0.mk ((HTM.out).mono (R' := fun E w' => E = pwrong ∧ KR (B + 1 + 1) w5.drew w') (fun E w' hE => by
              obtain ⟨hk, ⟨_, rfl⟩ | ⟨t4, r4, v4, hv, _⟩⟩ := hE
              · exact ⟨rfl, hk⟩
              · rw [qt] at hv; cases hv))
            clear qt HTM
            unfold pwrong at HC
            have d1 := (HF2.out).g.cells.2.1
            have d2 := pw_cell_below hd d1
            clear hd
            refine wp_region_any (by kernel_rfl) ?_
            change wpAny _ _ _ _ _ _ _ (World.drew _)
            refine wpAny_ready (rs := [0, 2, 3]) (by kernel_rfl) (by simp) ?_
            refine AllReady.cons rfl (fun K hK => ?_) ?_
            · go_simp
              refine hK _ _ ?_
              clear hK K
              refine wpAny_ready (rs := [1, 2, 3]) (by kernel_rfl) (by simp) ?_
              refine AllReady.cons rfl (fun K hK => ?_) ?_
              · go_simp
                refine hK _ _ ?_
                clear hK K
                refine wpAny_ready (rs := [2, 3]) (by kernel_rfl) (by simp) ?_
                refine AllReady.cons rfl (fun K hK => ?_) ?_
                · go_simp
                  refine hK _ _ ?_
                  clear hK K
                  refine wpAny_ready (rs := [3]) (by kernel_rfl) (by simp) ?_
                  refine AllReady.cons rfl (fun K hK => ?_) ?_
                  · go_simp
                    refine hK _ _ ?_
                    clear hK K
                    refine wpAny_ready (rs := [4]) (by kernel_rfl) (by simp) ?_
                    refine AllReady.cons rfl (fun K hK => ?_) ?_
                    · go_simp
                      go_wp2_with (go_at_call 60; refine (HC.out).mono ?_; rintro E w8 ⟨rfl, hk⟩; exact get3_panic HX.out ((HFD.out).gone hk) _ rfl rfl)
                    exact AllReady.nil
                  exact AllReady.nil
                refine AllReady.cons rfl (fun K hK => ?_) ?_
                · go_simp
                  refine hK _ _ ?_
                  clear hK K
                  refine wpAny_ready (rs := [2, 4]) (by kernel_rfl) (by simp) ?_
                  refine AllReady.cons rfl (fun K hK => ?_) ?_
                  · go_simp
                    refine hK _ _ ?_
                    clear hK K
                    refine wpAny_ready (rs := [4]) (by kernel_rfl) (by simp) ?_
                    refine AllReady.cons rfl (fun K hK => ?_) ?_
                    · go_simp
                      go_wp2_with (go_at_call 60; refine (HC.out).mono ?_; rintro E w8 ⟨rfl, hk⟩; exact get3_panic HX.out ((HFD.out).gone hk) _ rfl rfl)
                    exact AllReady.nil
                  refine AllReady.cons rfl (fun K hK => ?_) ?_
                  · go_simp
                    go_wp2_with (go_at_call 60; refine (HC.out).mono ?_; rintro E w8 ⟨rfl, hk⟩; exact get3_panic HX.out ((HFD.out).gone hk) _ rfl rfl)
                  exact AllReady.nil
                exact AllReady.nil
              refine AllReady.cons rfl (fun K hK => ?_) ?_
              · go_simp
                refine hK _ _ ?_
                clear hK K
                refine wpAny_ready (rs := [1, 3]) (by kernel_rfl) (by simp) ?_
                refine AllReady.cons rfl (fun K hK => ?_) ?_
                · go_simp
                  refine hK _ _ ?_
                  clear hK K
                  refine wpAny_ready (rs := [3]) (by kernel_rfl) (by simp) ?_
                  refine AllReady.cons rfl (fun K hK => ?_) ?_
                  · go_simp
                    refine hK _ _ ?_
                    clear hK K
                    refine wpAny_ready (rs := [4]) (by kernel_rfl) (by simp) ?_
                    refine AllReady.cons rfl (fun K hK => ?_) ?_
                    · go_simp
                      go_wp2_with (go_at_call 60; refine (HC.out).mono ?_; rintro E w8 ⟨rfl, hk⟩; exact get3_panic HX.out ((HFD.out).gone hk) _ rfl rfl)
                    exact AllReady.nil
                  exact AllReady.nil
                refine AllReady.cons rfl (fun K hK => ?_) ?_
                · go_simp
                  refine hK _ _ ?_
                  clear hK K
                  refine wpAny_ready (rs := [1, 4]) (by kernel_rfl) (by simp) ?_
                  refine AllReady.cons rfl (fun K hK => ?_) ?_
                  · go_simp
                    refine hK _ _ ?_
                    clear hK K
                    refine wpAny_ready (rs := [4]) (by kernel_rfl) (by simp) ?_
                    refine AllReady.cons rfl (fun K hK => ?_) ?_
                    · go_simp
                      go_wp2_with (go_at_call 60; refine (HC.out).mono ?_; rintro E w8 ⟨rfl, hk⟩; exact get3_panic HX.out ((HFD.out).gone hk) _ rfl rfl)
                    exact AllReady.nil
                  refine AllReady.cons rfl (fun K hK => ?_) ?_
                  · go_simp
                    go_wp2_with (go_at_call 60; refine (HC.out).mono ?_; rintro E w8 ⟨rfl, hk⟩; exact get3_panic HX.out ((HFD.out).gone hk) _ rfl rfl)
                  exact AllReady.nil
                exact AllReady.nil
              refine AllReady.cons rfl (fun K hK => ?_) ?_
              · go_simp
                refine hK _ _ ?_
                clear hK K
                refine wpAny_ready (rs := [1, 2, 4]) (by kernel_rfl) (by simp) ?_
                refine AllReady.cons rfl (fun K hK => ?_) ?_
                · go_simp
                  refine hK _ _ ?_
                  clear hK K
                  refine wpAny_ready (rs := [2, 4]) (by kernel_rfl) (by simp) ?_
                  refine AllReady.cons rfl (fun K hK => ?_) ?_
                  · go_simp
                    refine hK _ _ ?_
                    clear hK K
                    refine wpAny_ready (rs := [4]) (by kernel_rfl) (by simp) ?_
                    refine AllReady.cons rfl (fun K hK => ?_) ?_
                    · go_simp
                      go_wp2_with (go_at_call 60; refine (HC.out).mono ?_; rintro E w8 ⟨rfl, hk⟩; exact get3_panic HX.out ((HFD.out).gone hk) _ rfl rfl)
                    exact AllReady.nil
                  refine AllReady.cons rfl (fun K hK => ?_) ?_
                  · go_simp
                    go_wp2_with (go_at_call 60; refine (HC.out).mono ?_; rintro E w8 ⟨rfl, hk⟩; exact get3_panic HX.out ((HFD.out).gone hk) _ rfl rfl)
                  exact AllReady.nil
                refine AllReady.cons rfl (fun K hK => ?_) ?_
                · go_simp
                  refine hK _ _ ?_
                  clear hK K
                  refine wpAny_ready (rs := [1, 4]) (by kernel_rfl) (by simp) ?_
                  refine AllReady.cons rfl (fun K hK => ?_) ?_
                  · go_simp
                    refine hK _ _ ?_
                    clear hK K
                    refine wpAny_ready (rs := [4]) (by kernel_rfl) (by simp) ?_
                    refine AllReady.cons rfl (fun K hK => ?_) ?_
                    · go_simp
                      go_wp2_with (go_at_call 60; refine (HC.out).mono ?_; rintro E w8 ⟨rfl, hk⟩; exact get3_panic HX.out ((HFD.out).gone hk) _ rfl rfl)
                    exact AllReady.nil
                  refine AllReady.cons rfl (fun K hK => ?_) ?_
                  · go_simp
                    go_wp2_with (go_at_call 60; refine (HC.out).mono ?_; rintro E w8 ⟨rfl, hk⟩; exact get3_panic HX.out ((HFD.out).gone hk) _ rfl rfl)
                  exact AllReady.nil
                refine AllReady.cons rfl (fun K hK => ?_) ?_
                · go_simp
                  go_wp2_with (go_at_call 60; refine (HC.out).mono ?_; rintro E w8 ⟨rfl, hk⟩; exact get3_panic HX.out ((HFD.out).gone hk) _ rfl rfl)
                exact AllReady.nil
              exact AllReady.nil
            refine AllReady.cons rfl (fun K hK => ?_) ?_
            · go_simp
              refine hK _ _ ?_
              clear hK K
              refine wpAny_ready (rs := [0, 3]) (by kernel_rfl) (by simp) ?_
              refine AllReady.cons rfl (fun K hK => ?_) ?_
              · go_simp
                refine hK _ _ ?_
                clear hK K
                refine wpAny_ready (rs := [1, 3]) (by kernel_rfl) (by simp) ?_
                refine AllReady.cons rfl (fun K hK => ?_) ?_
                · go_simp
                  refine hK _ _ ?_
                  clear hK K
                  refine wpAny_ready (rs := [3]) (by kernel_rfl) (by simp) ?_
                  refine AllReady.cons rfl (fun K hK => ?_) ?_
                  · go_simp
                    refine hK _ _ ?_
                    clear hK K
                    refine wpAny_ready (rs := [4]) (by kernel_rfl) (by simp) ?_
                    refine AllReady.cons rfl (fun K hK => ?_) ?_
                    · go_simp
                      go_wp2_with (go_at_call 60; refine (HC.out).mono ?_; rintro E w8 ⟨rfl, hk⟩; exact get3_panic HX.out ((HFD.out).gone hk) _ rfl rfl)
                    exact AllReady.nil
                  exact AllReady.nil
                refine AllReady.cons rfl (fun K hK => ?_) ?_
                · go_simp
                  refine hK _ _ ?_
                  clear hK K
                  refine wpAny_ready (rs := [1, 4]) (by kernel_rfl) (by simp) ?_
                  refine AllReady.cons rfl (fun K hK => ?_) ?_
                  · go_simp
                    refine hK _ _ ?_
                    clear hK K
                    refine wpAny_ready (rs := [4]) (by kernel_rfl) (by simp) ?_
                    refine AllReady.cons rfl (fun K hK => ?_) ?_
                    · go_simp
                      go_wp2_with (go_at_call 60; refine (HC.out).mono ?_; rintro E w8 ⟨rfl, hk⟩; exact get3_panic HX.out ((HFD.out).gone hk) _ rfl rfl)
                    exact AllReady.nil
                  refine AllReady.cons rfl (fun K hK => ?_) ?_
                  · go_simp
                    go_wp2_with (go_at_call 60; refine (HC.out).mono ?_; rintro E w8 ⟨rfl, hk⟩; exact get3_panic HX.out ((HFD.out).gone hk) _ rfl rfl)
                  exact AllReady.nil
                exact AllReady.nil
              refine AllReady.cons rfl (fun K hK => ?_) ?_
              · go_simp
                refine hK _ _ ?_
                clear hK K
                refine wpAny_ready (rs := [0, 4]) (by kernel_rfl) (by simp) ?_
                refine AllReady.cons rfl (fun K hK => ?_) ?_
                · go_simp
                  refine hK _ _ ?_
                  clear hK K
                  refine wpAny_ready (rs := [1, 4]) (by kernel_rfl) (by simp) ?_
                  refine AllReady.cons rfl (fun K hK => ?_) ?_
                  · go_simp
                    refine hK _ _ ?_
                    clear hK K
                    refine wpAny_ready (rs := [4]) (by kernel_rfl) (by simp) ?_
                    refine AllReady.cons rfl (fun K hK => ?_) ?_
                    · go_simp
                      go_wp2_with (go_at_call 60; refine (HC.out).mono ?_; rintro E w8 ⟨rfl, hk⟩; exact get3_panic HX.out ((HFD.out).gone hk) _ rfl rfl)
                    exact AllReady.nil
                  refine AllReady.cons rfl (fun K hK => ?_) ?_
                  · go_simp
                    go_wp2_with (go_at_call 60; refine (HC.out).mono ?_; rintro E w8 ⟨rfl, hk⟩; exact get3_panic HX.out ((HFD.out).gone hk) _ rfl rfl)
                  exact AllReady.nil
                refine AllReady.cons rfl (fun K hK => ?_) ?_
                · go_simp
                  go_wp2_with (go_at_call 60; refine (HC.out).mono ?_; rintro E w8 ⟨rfl, hk⟩; exact get3_panic HX.out ((HFD.out).gone hk) _ rfl rfl)
                exact AllReady.nil
              exact AllReady.nil
            refine AllReady.cons rfl (fun K hK => ?_) ?_
            · go_simp
              refine hK _ _ ?_
              clear hK K
              refine wpAny_ready (rs := [0, 2, 4]) (by kernel_rfl) (by simp) ?_
              refine AllReady.cons rfl (fun K hK => ?_) ?_
              · go_simp
                refine hK _ _ ?_
                clear hK K
                refine wpAny_ready (rs := [1, 2, 4]) (by kernel_rfl) (by simp) ?_
                refine AllReady.cons rfl (fun K hK => ?_) ?_
                · go_simp
                  refine hK _ _ ?_
                  clear hK K
                  refine wpAny_ready (rs := [2, 4]) (by kernel_rfl) (by simp) ?_
                  refine AllReady.cons rfl (fun K hK => ?_) ?_
                  · go_simp
                    refine hK _ _ ?_
                    clear hK K
                    refine wpAny_ready (rs := [4]) (by kernel_rfl) (by simp) ?_
                    refine AllReady.cons rfl (fun K hK => ?_) ?_
                    · go_simp
                      go_wp2_with (go_at_call 60; refine (HC.out).mono ?_; rintro E w8 ⟨rfl, hk⟩; exact get3_panic HX.out ((HFD.out).gone hk) _ rfl rfl)
                    exact AllReady.nil
                  refine AllReady.cons rfl (fun K hK => ?_) ?_
                  · go_simp
                    go_wp2_with (go_at_call 60; refine (HC.out).mono ?_; rintro E w8 ⟨rfl, hk⟩; exact get3_panic HX.out ((HFD.out).gone hk) _ rfl rfl)
                  exact AllReady.nil
                refine AllReady.cons rfl (fun K hK => ?_) ?_
                · go_simp
                  refine hK _ _ ?_
                  clear hK K
                  refine wpAny_ready (rs := [1, 4]) (by kernel_rfl) (by simp) ?_
                  refine AllReady.cons rfl (fun K hK => ?_) ?_
                  · go_simp
                    refine hK _ _ ?_
                    clear hK K
                    refine wpAny_ready (rs := [4]) (by kernel_rfl) (by simp) ?_
                    refine AllReady.cons rfl (fun K hK => ?_) ?_
                    · go_simp
                      go_wp2_with (go_at_call 60; refine (HC.out).mono ?_; rintro E w8 ⟨rfl, hk⟩; exact get3_panic HX.out ((HFD.out).gone hk) _ rfl rfl)
                    exact AllReady.nil
                  refine AllReady.cons rfl (fun K hK => ?_) ?_
                  · go_simp
                    go_wp2_with (go_at_call 60; refine (HC.out).mono ?_; rintro E w8 ⟨rfl, hk⟩; exact get3_panic HX.out ((HFD.out).gone hk) _ rfl rfl)
                  exact AllReady.nil
                refine AllReady.cons rfl (fun K hK => ?_) ?_
                · go_simp
                  go_wp2_with (go_at_call 60; refine (HC.out).mono ?_; rintro E w8 ⟨rfl, hk⟩; exact get3_panic HX.out ((HFD.out).gone hk) _ rfl rfl)
                exact AllReady.nil
              refine AllReady.cons rfl (fun K hK => ?_) ?_
              · go_simp
                refine hK _ _ ?_
                clear hK K
                refine wpAny_ready (rs := [0, 4]) (by kernel_rfl) (by simp) ?_
                refine AllReady.cons rfl (fun K hK => ?_) ?_
                · go_simp
                  refine hK _ _ ?_
                  clear hK K
                  refine wpAny_ready (rs := [1, 4]) (by kernel_rfl) (by simp) ?_
                  refine AllReady.cons rfl (fun K hK => ?_) ?_
                  · go_simp
                    refine hK _ _ ?_
                    clear hK K
                    refine wpAny_ready (rs := [4]) (by kernel_rfl) (by simp) ?_
                    refine AllReady.cons rfl (fun K hK => ?_) ?_
                    · go_simp
                      go_wp2_with (go_at_call 60; refine (HC.out).mono ?_; rintro E w8 ⟨rfl, hk⟩; exact get3_panic HX.out ((HFD.out).gone hk) _ rfl rfl)
                    exact AllReady.nil
                  refine AllReady.cons rfl (fun K hK => ?_) ?_
                  · go_simp
                    go_wp2_with (go_at_call 60; refine (HC.out).mono ?_; rintro E w8 ⟨rfl, hk⟩; exact get3_panic HX.out ((HFD.out).gone hk) _ rfl rfl)
                  exact AllReady.nil
                refine AllReady.cons rfl (fun K hK => ?_) ?_
                · go_simp
                  go_wp2_with (go_at_call 60; refine (HC.out).mono ?_; rintro E w8 ⟨rfl, hk⟩; exact get3_panic HX.out ((HFD.out).gone hk) _ rfl rfl)
                exact AllReady.nil
              refine AllReady.cons rfl (fun K hK => ?_) ?_
              · go_simp
                go_wp2_with (go_at_call 60; refine (HC.out).mono ?_; rintro E w8 ⟨rfl, hk⟩; exact get3_panic HX.out ((HFD.out).gone hk) _ rfl rfl)
              exact AllReady.nil
            exact AllReady.nil
          | some p =>
            obtain ⟨tt, r⟩ := p
            rw [qt] at HNX
            have HC : Aside0 (Calls Tryz.prog 60 #[.pointer (some ⟨B + 1 + 1, 0, none⟩)] w5.drew fun E w' => ∃ A7 c7, E = .returned (.agg #[.int .i64 tt.f0, .int .i64 tt.f1, .slice A7 tt.f2.length c7]) ∧ Kd.R k50 50 w' w5.drew.heap.size (fun k => w5.drew.heap.size ≤ k) (.slice A7 tt.f2.length c7) tt.f2 ∧ RT (B + 1 + 1) r (.map (some B)) (.map (some (B + 1))) w' ∧ KR (B + 1 + 1) w5.drew w') := ⟨(HTM.out).mono fun E w' hE => by
              obtain ⟨hk, ⟨h0, _⟩ | ⟨t4, r4, v4, hv, rfl, hR, hr⟩⟩ := hE
              · rw [qt] at h0; cases h0
              · rw [qt] at hv
                cases hv
                obtain ⟨A7, c7, rfl⟩ := Kd.R_slice hR
                exact ⟨A7, c7, rfl, hR, hr, hk⟩⟩
            clear qt HTM
            have d1 := (HF2.out).g.cells.2.1
            have d2 := pw_cell_below hd d1
            have HGT := Aside0.mk (show B + 1 + 1 < w5.drew.heap.size ∧ w.heap.size ≤ w5.drew.heap.size from ⟨(HFD.out).lt, (HFD.out).hb.size⟩)
            have HJF := Aside0.mk (show j < F.length by have := HFLN.out; have := HNB.out; have := HLT.out; omega)
            have hjz : (j : Int) < (F.length : Int) := by have := HJF.out; omega
            clear hd
            refine wp_region_noPanic ?_
            go_region_law (first
              | (go_simp; go_at_call 60; refine (HC.out).mono ?_; rintro E w8 ⟨A7, c7, rfl, hR, hr, hk⟩; have HF8 := Aside0.mk ((HFD.out).call hk hr); have HR8 := Aside0.mk (Kd.R_lower (base' := w.heap.size) (Kd.R_mono (ok' := fun k => B + 1 + 1 < k ∧ k ≠ g2) (Kd.R_new' hR (Kd.R_lt (HFD.out).r2)) (fun k hk => ⟨by have := (HGT.out).1; omega, fun e => hk.2 (by rw [e]; rfl)⟩)) (HGT.out).2); have hbc := body_cells (HF8.out).r2 HJF.out; (obtain ⟨⟨x0, y0, z0, hx0, hy0, hz0⟩, fx0, fy0, fz0⟩ := hbc); have HRB := Aside0.mk (row_body (HF8.out).r2 HJF.out tt HR8.out (fun k hk => hk)); have d3 := (HF8.out).g.cells.2.1; clear hk hr hR)
              | fail)
            all_goals
              refine NoPanic.normal ?_
              rw [show ((w8.setCell ⟨g2, j * 5 + 2, none⟩ (.int .i64 tt.f0)).setCell ⟨g2, j * 5 + 2 + 1, none⟩ (.int .i64 tt.f1)).setCell ⟨g2, j * 5 + 2 + 2, none⟩ (.slice A7 tt.f2.length c7) = w8.setCells g2 (j * 5 + 2) [.int .i64 tt.f0, .int .i64 tt.f1, .slice A7 tt.f2.length c7] from rfl]
              have HFS := (HF8.out).stored (by rw [List.length_set]) (HRB.out).1 (HRB.out).2
              rw [HSX.out, HGX.out] at HFS
              have HFS := Aside0.mk HFS
              clear hx0 hy0 hz0 fx0 fy0 fz0 d1 d2 d3 HRB HF8 HR8 HC HFD HF2
              generalize (w8.setCells g2 (j * 5 + 2) [.int .i64 tt.f0, .int .i64 tt.f1, .slice A7 tt.f2.length c7]) = w9 at *
              have hb0 := (HFS.out).rt.cells.1.1
              obtain ⟨sr, hsr⟩ : ∃ sr : ByteArray, sr = ⟨r.toArray⟩ := ⟨_, rfl⟩
              rw [← hsr] at hb0
              have HSR := Aside0.mk (show sr.data.toList = r by rw [hsr])
              clear hsr
              cases q9 : sr.toList.isEmpty with
              | false =>
                have HNE := Aside0.mk (show r ≠ [] from fun e => by rw [Lib.toList_data, HSR.out, e] at q9; cases q9)
                have HX := Aside0.mk (getR3_bad HSZ.out (HVV.out.trans (by rw [HBO.out, HNX.out]; simp only [Option.bind_some]; rw [if_neg HNE.out]; rfl)))
                go_wp2
                exact get3_panic HX.out (HFS.out).g _ rfl rfl
              | true =>
                have HNE := Aside0.mk (show r = [] from by rw [Lib.toList_data, HSR.out] at q9; exact List.isEmpty_iff.1 q9)
                have HBN := Aside0.mk (show boAll (nmE (G.sy.map (·.f0))) (nmE (G.fs.map (·.f0))) G.fs G.bo = (boAll (nmE (G.sy.map (·.f0))) (nmE (G.fs.map (·.f0))) (G.fs.drop (j + 1)) (G.bo.drop (j + 1))).map ((dn ++ [⟨(G.fs.getD j z52).f0, (G.fs.getD j z52).f1, tt⟩]) ++ ·) from by
                  rw [HBO.out, HNX.out]
                  simp only [Option.bind_some]
                  rw [if_pos HNE.out, Option.map_map]
                  congr 1
                  funext l
                  simp)
                have HFT := HFS.out
                rw [HNE.out] at HFT
                have HFT := Aside0.mk HFT
                go_wp2
                go_roundg (G.bo.length - (j + 1))
                case measure => have := HLT.out; omega
                case rel => exact ⟨j + 1, dn ++ [⟨(G.fs.getD j z52).f0, (G.fs.getD j z52).f1, tt⟩], HLT.out, Nat.le_refl _, by rw [HKZ.out], ⟨by rw [List.length_append, HDN.out]; rfl⟩, HBN, HFT⟩
        · obtain rfl : j = G.bo.length := by omega
          have HVF := Aside0.mk (show getV3 t = some (G.sy, dn, G.large) from by rw [HVV.out, HBO.out, boAll_end HNB.out]; simp)
          have HF2 := HF.out
          rw [List.drop_eq_nil_of_le (show G.fs.length ≤ G.bo.length from Nat.le_of_eq HNB.out.symm), List.append_nil] at HF2
          have HF2 := Aside0.mk HF2
          clear HF HBO HVV HDN hlt hj hgg HBZ
          have HCK := Aside0.mk (scheme_calls G.sy dn A1 A2 c1 c2 wr (Kd.R_reads' (HF2.out).r1).2.2 (Kd.R_reads' (HF2.out).r2).2.2)
          obtain ⟨p0, p1, p3⟩ := (HF2.out).g.cells
          obtain ⟨f0, f1, f3⟩ := (HF2.out).g.frozen
          cases qL : G.large with
          | true =>
            have HRR := Aside0.mk (show getR3 t = (7, [], []) by unfold getR3; rw [if_neg (by have := HSZ.out; omega), HVF.out]; simp only; rw [if_pos (.inl qL)])
            have HFI := Aside0.mk ((HF2.out).fin (.slice none 0 0) (.slice none 0 0) (.int .i64 7))
            go_wp2
            obtain ⟨_, k1, k2, k3⟩ := HFI.out
            exact get3_done (A1 := none) (A2 := none) (c1 := 0) (c2 := 0) (sy := []) (fs := []) HRR.out k1 k2 k3 ⟨rfl, by simp, fun h => absurd h (by simp)⟩ (Nat.le_refl _) ⟨rfl, by simp, fun h => absurd h (by simp)⟩ (Nat.le_refl _) _ rfl rfl
          | false =>
            by_cases hz : schV G.sy dn = 0
            · rw [hz] at HCK
              have HRR := Aside0.mk (show getR3 t = (0, G.sy, dn) by unfold getR3; rw [if_neg (by have := HSZ.out; omega), HVF.out]; simp only; rw [if_neg (by rw [qL, hz]; simp)])
              clear hz
              go_wp2_with fail
              refine (HCK.out).mono ?_
              rintro E w6 ⟨rfl, hb⟩
              have HF3 := Aside0.mk ((HF2.out).below hb)
              clear hb p0 p1 p3 f0 f1 f3 HF2 HCK
              obtain ⟨p0, p1, p3⟩ := (HF3.out).g.cells
              obtain ⟨f0, f1, f3⟩ := (HF3.out).g.frozen
              have HFI := Aside0.mk ((HF3.out).fin (.slice A1 G.sy.length c1) (.slice A2 dn.length c2) (.int .i64 0))
              go_wp2
              obtain ⟨⟨k4, k5, k6, k7⟩, k1, k2, k3⟩ := HFI.out
              exact get3_done HRR.out k1 k2 k3 k4 k5 k6 k7 _ rfl rfl
            · have hsv : schV G.sy dn = 7 := by
                cases q : schB G.sy dn with
                | true => exact absurd (schV_good q) hz
                | false => exact schV_bad q
              rw [hsv] at HCK
              have HRR := Aside0.mk (show getR3 t = (7, [], []) by unfold getR3; rw [if_neg (by have := HSZ.out; omega), HVF.out]; simp only; rw [if_pos (.inr hz)])
              clear hz hsv
              go_wp2_with fail
              refine (HCK.out).mono ?_
              rintro E w6 ⟨rfl, hb⟩
              have HF3 := Aside0.mk ((HF2.out).below hb)
              clear hb p0 p1 p3 f0 f1 f3 HF2 HCK
              obtain ⟨p0, p1, p3⟩ := (HF3.out).g.cells
              obtain ⟨f0, f1, f3⟩ := (HF3.out).g.frozen
              have HFI := Aside0.mk ((HF3.out).fin (.slice none 0 0) (.slice none 0 0) (.int .i64 7))
              go_wp2
              obtain ⟨_, k1, k2, k3⟩ := HFI.out
              exact get3_done (A1 := none) (A2 := none) (c1 := 0) (c2 := 0) (sy := []) (fs := []) HRR.out k1 k2 k3 ⟨rfl, by simp, fun h => absurd h (by simp)⟩ (Nat.le_refl _) ⟨rfl, by simp, fun h => absurd h (by simp)⟩ (Nat.le_refl _) _ rfl rfl
end Go.Proofs.YthflpbgloeimfaaGreatDoor.H
namespace Go.Proofs.YthflpbgloeimfaaGreatDoor.H
open Go.RowKit Go.Proofs.YthflpbgloeimfaaGreatDoorW.PrintWords Go.Proofs.YthflpbgloeimfaaGreatDoorW.PrintLast Go.Proofs.YthflpbgloeimfaaGreatDoorW.PrintMore
open Go.Proofs.YthflpbgloeimfaaGreatDoor.Q (S47 k47 rd_T47 z47 at_T47 S50 k50 rd_T50 z50 at_T50 S52 k52 rd_T52 at_T52 z52 S71 k71 rd_T71 at_T71)
set_option linter.unusedVariables false
set_option linter.unusedSimpArgs false
theorem flatMap_len {α : Type} {f : α → List UInt8} {c : Nat} (l : List α) (h : ∀ x ∈ l, (f x).length ≤ c) : (l.flatMap f).length ≤ l.length * c := by
  induction l with
  | nil => simp
  | cons a r ih =>
    rw [List.flatMap_cons, List.length_append, List.length_cons, Nat.succ_mul]
    have := h a (List.mem_cons_self ..)
    have := ih (fun x hx => h x (List.mem_cons_of_mem _ hx))
    omega
theorem flatMap_drop {α : Type} {g : α → List UInt8} {l : List α} {i : Nat} (h : i < l.length) : (l.drop i).flatMap g = g l[i] ++ (l.drop (i + 1)).flatMap g := by
  rw [dropS h, List.flatMap_cons]
structure ScOk (sy : List S71) (fs : List S52) : Prop where
  ny : sy.length ≤ 24
  nf : fs.length ≤ 64
  sym : ∀ x ∈ sy, x.f0.size ≤ 24 ∧ 0 ≤ x.f1 ∧ x.f1 ≤ 4
  fnm : ∀ f ∈ fs, f.f0.size ≤ 24
  srt : ∀ f ∈ fs, srtB f.f1 = true ∧ f.f1.f0.length ≤ 60
  bod : ∀ f ∈ fs, tN f.f2 ≤ 400 ∧ tIn sy.length fs.length f.f1.f0.length f.f2
theorem scOk {sy : List S71} {fs : List S52} (h : schB sy fs = true) : ScOk sy fs := by
  obtain ⟨⟨h1, h2, h3⟩, h4, h5, h6, h7⟩ := schB_parts h
  refine ⟨(symsB_len h1).1, h3, fun x hx => ?_, fun f hf => ?_, fun f hf => ?_, fun f hf => ?_⟩
  · have h8 := (symsB_len h1).2 x hx
    unfold symOk at h8
    simp only [Bool.and_eq_true, decide_eq_true_eq] at h8
    exact ⟨nameB_size h8.1.1, h8.1.2, h8.2⟩
  · have h8 := h5 f hf
    unfold headOk at h8
    rw [Bool.and_eq_true] at h8
    exact nameB_size h8.1
  · have h8 := headOk_srt (h5 f hf)
    refine ⟨h8, ?_⟩
    have h9 := srtB_N h8
    obtain ⟨n, ⟨l⟩, b⟩ := f
    simp only at h9 ⊢
    rw [sN] at h9
    have := sLen_le (l := l)
    omega
  · have h8 := h7 f hf
    unfold bodyOk endO at h8
    simp only [Bool.and_eq_true, decide_eq_true_eq] at h8
    refine ⟨h8.1.1, ?_⟩
    cases e : ofV sy (fs.map (·.f1)) f.f1.f0 f.f2 with
    | none => rw [e] at h8; exact absurd h8.2.1 (by simp)
    | some x => have := ofV_in e; rwa [List.length_map] at this
theorem symL_len {sy : List S71} {fs : List S52} (h : ScOk sy fs) {x : S71} (hx : x ∈ sy) : (symL x).length ≤ 40 := by
  have := h.sym x hx
  have h2 := dg_len (n := x.f1.toNat) (by omega)
  rw [Lib.size_eq] at this
  unfold symL
  simp only [List.length_append, List.length_cons, List.length_nil]
  omega
theorem funL_len {sy : List S71} {fs : List S52} (h : ScOk sy fs) {f : S52} (hf : f ∈ fs) : (funL sy fs f).length ≤ 12500 := by
  have h1 := h.fnm f hf
  rw [Lib.size_eq] at h1
  have h2 := srtS_len f.f1
  have h3 := srtB_N (h.srt f hf).1
  have h4 := trmS_len (sy := sy) (fs := fs) (fun x hx => (h.sym x hx).1) h.fnm (np := f.f1.f0.length) (by have := (h.srt f hf).2; omega) _ f.f2 (Nat.le_refl _) (h.bod f hf).2
  have h5 := (h.bod f hf).1
  unfold funL
  simp only [List.length_append, List.length_cons, List.length_nil]
  omega
theorem putL_len {sy : List S71} {fs : List S52} (h : ScOk sy fs) : (putL sy fs).length ≤ 1000000 := by
  have h1 := flatMap_len (f := symL) (c := 40) sy (fun x hx => symL_len h hx)
  have h2 := flatMap_len (f := funL sy fs) (c := 12500) fs (fun f hf => funL_len h hf)
  have := h.ny; have := h.nf
  unfold putL
  rw [List.length_append]
  omega
structure PX (w : World) (b : Nat) (s1 s2 : Value) (acc : List UInt8) (W : World) : Prop where
  hb : Below w.heap.size w W
  box : W.heap[w.heap.size]? = some (.cells #[s1, s2] 25 (0, 0))
  hlt : w.heap.size < b
  bb : BB b b acc W
  hbw : b < W.heap.size
theorem PX.write {w W W1 : World} {b : Nat} {s1 s2 : Value} {acc acc1 : List UInt8} (h : PX w b s1 s2 acc W) (hw : WrE b acc1 W W1) : PX w b s1 s2 acc1 W1 :=
  ⟨Below.trans h.hb (Below.mono hw.2.1 (Nat.le_of_lt h.hlt)), (hw.2.1.block _ h.hlt).trans h.box, h.hlt, hw.1, Nat.lt_of_lt_of_le h.hbw hw.2.2.size⟩
theorem PX.below {w W W1 : World} {b : Nat} {s1 s2 : Value} {acc : List UInt8} (h : PX w b s1 s2 acc W) (hb : Below W.heap.size W W1) : PX w b s1 s2 acc W1 :=
  ⟨below_then h.hb h.hb.size hb, blk_below h.box hb, h.hlt, bb_below h.bb hb, Nat.lt_of_lt_of_le h.hbw hb.size⟩
theorem px_start (w W : World) (s1 s2 : Value) (hb : Below w.heap.size w W) (box : W.heap[w.heap.size]? = some (.cells #[s1, s2] 25 (0, 0))) :
    PX w W.heap.size s1 s2 [] (W.alloc (.cells #[.pointer none, .slice none 0 0] 69)) :=
  ⟨hb.alloc hb.size _, blk_alloc box _, blk_lt box, bb_new W, by simp⟩
theorem PX.cells {w : World} {b : Nat} {s1 s2 : Value} {acc : List UInt8} {W : World} (h : PX w b s1 s2 acc W) : W.cell? ⟨w.heap.size, 0, none⟩ = some s1 ∧ W.cell? ⟨w.heap.size, 1, none⟩ = some s2 := ⟨(blk_cell h.box 0).trans rfl, (blk_cell h.box 1).trans rfl⟩
def PutE (v : List UInt8 × Int) (w : World) (e : Ending) (w' : World) : Prop := e = .returned (.tuple #[.string ⟨v.1.toArray⟩, .int .i64 v.2]) ∧ Below w.heap.size w w'
set_option maxHeartbeats 16000000 in
set_option maxRecDepth 100000 in
theorem put_calls (sy : List S71) (fs : List S52) (A1 A2 : Option Addr) (c1 c2 : Nat) (w : World) (hS : Kd.C k71 w A1 sy.length sy) (hF : Kd.C k52 w A2 fs.length fs) :
    Calls Tryz.prog 17 #[.agg #[.slice A1 sy.length c1, .slice A2 fs.length c2]] w (PutE (putV sy fs) w) := by
  have HS := Aside0.mk hS
  have HF := Aside0.mk hF
  have HP := Aside0.mk (CB.mk (below_alloc (Below.refl w.heap.size w) (.cells #[.slice A1 sy.length c1, .slice A2 fs.length c2] 25)) (blk_new w (.cells #[.slice A1 sy.length c1, .slice A2 fs.length c2] 25)))
  have HCK := Aside0.mk (fun (W : World) (hW : Below w.heap.size w W) => scheme_calls sy fs A1 A2 c1 c2 W (Kd.C_below hS hW) (Kd.C_below hF hW))
  clear hS hF
  go_enter Tryz.func17, Tryz.ntmps17
  go_upto_region 1 with (fail)
  generalize w.alloc (.cells #[.slice A1 sy.length c1, .slice A2 fs.length c2] 25) = W1 at *
  obtain ⟨p0, p1⟩ := (HP.out).cells
  go_wp2_with fail
  refine (HCK.out W1 (HP.out).hb).mono ?_
  rintro E w2 ⟨rfl, hb⟩
  have HP2 := Aside0.mk ((HP.out).below hb)
  clear hb p0 p1 HP HCK
  cases q : schB sy fs with
  | false =>
    have HV := Aside0.mk (show putV sy fs = ([], 7) by unfold putV; rw [q]; rfl)
    rw [schV_bad q]
    clear q
    go_wp2
    go_ret2
    exact ⟨by rw [HV.out]; rfl, (HP2.out).hb⟩
  | true =>
  have HPV := Aside0.mk (show putV sy fs = if 65536 < (putL sy fs).length then ([], 3) else (putL sy fs, 0) by unfold putV; rw [q]; rfl)
  have HOK := Aside0.mk (scOk q)
  have HLN := Aside0.mk (putL_len (scOk q))
  rw [schV_good q]
  clear q
  have HX := Aside0.mk (px_start w w2 _ _ (HP2.out).hb (HP2.out).h0)
  go_upto_region 5 with (fail)
  generalize w2.alloc (.cells #[.pointer none, .slice none 0 0] 69) = w3 at *
  generalize w2.heap.size = b at *
  obtain ⟨p0, p1⟩ := (HX.out).cells
  go_wp2
  clear p0 p1 HP2
  go_loopg [20] sy.length (fun gg v20 wi => ∃ (j : Nat) (acc : List UInt8), j ≤ sy.length ∧ sy.length - j ≤ gg ∧ v20 = .int .i64 j ∧ Aside0 (PX w b (.slice A1 sy.length c1) (.slice A2 fs.length c2) acc wi) ∧ Aside0 (acc ++ ((sy.drop j).flatMap symL ++ fs.flatMap (funL sy fs)) = putL sy fs))
  case atStart => exact ⟨0, [], by omega, by omega, rfl, HX, ⟨rfl⟩⟩
  case round =>
    clear HX
    obtain ⟨j, acc, hj, hgg, rfl, HX, HA⟩ := hrel
    by_cases hlt : j < sy.length
    · have hltz : (j : Int) < (sy.length : Int) := by omega
      obtain ⟨ad, e, hx0, hx1⟩ := at_T71 HS.out (j : Int) (by omega) hltz
      subst e
      rw [rdY_at hlt] at hx0 hx1
      rw [Int.toNat_natCast] at hx0 hx1
      replace hx0 := ((HX.out).hb.cell (World.block_lt_of_cell? w _ hx0)).trans hx0
      replace hx1 := ((HX.out).hb.cell (World.block_lt_of_cell? w _ hx1)).trans hx1
      have HFD := Aside0.mk (flatMap_drop (g := symL) hlt)
      have HSM := Aside0.mk ((HOK.out).sym _ (List.getElem_mem hlt))
      generalize sy[j] = u at *
      go_upto_region 8 with (fail)
      have HX5 := Aside0.mk (blk_new wr (.cells #[.string u.f0, .int .i64 u.f1] 71))
      have HP5 := Aside0.mk ((HX.out).below (below_alloc (Below.refl wr.heap.size wr) (.cells #[.string u.f0, .int .i64 u.f1] 71)))
      clear hx0 hx1 HX
      generalize (wr.alloc (.cells #[.string u.f0, .int .i64 u.f1] 71)) = w5 at *
      generalize wr.heap.size = b7 at *
      have m0 : w5.cell? ⟨b7, 0, none⟩ = some (.string u.f0) := (blk_cell HX5.out 0).trans rfl
      have m1 : w5.cell? ⟨b7, 1, none⟩ = some (.int .i64 u.f1) := (blk_cell HX5.out 1).trans rfl
      have HI := Aside0.mk (fun W => itoa_calls u.f1 (HSM.out).2.1 (by have := (HSM.out).2.2; omega) W)
      have hsz : u.f0.size ≤ 24 := (HSM.out).1
      have hd : (dg u.f1.toNat).length ≤ 2 := dg_len (by have := (HSM.out).2.1; have := (HSM.out).2.2; omega)
      refine wp_region_still_tail 9 (by kernel_rfl) (by kernel_rfl) ?_
      simp only [List.take_succ_cons, List.take_zero, List.drop_succ_cons, List.drop_zero]
      repeat (refine wpStill_step (fun K hK => ?_); go_simp; (first | refine hK _ ?_ | (rw [if_neg (by omega)]; go_simp; refine hK _ ?_)); clear hK K)
      still_call (HI.out _)
      repeat (refine wpStill_step (fun K hK => ?_); go_simp; (first | refine hK _ ?_ | (rw [if_neg (by omega)]; go_simp; refine hK _ ?_)); clear hK K)
      refine wpStill_nil ?_
      change wpList _ _ _ _ _ w5.drew
      have HP6 := Aside0.mk ((HP5.out).below (below_drew (Below.refl _ _)))
      clear m0 m1 HP5 HI
      generalize w5.drew = w6 at *
      have HA6 := Aside0.mk (show (acc ++ symL u) ++ ((sy.drop (j + 1)).flatMap symL ++ fs.flatMap (funL sy fs)) = putL sy fs by rw [← HA.out, HFD.out]; simp)
      have HLA := Aside0.mk (show acc.length + (symL u).length ≤ 1000000 by
        have h1 := HLN.out
        rw [← HA6.out, List.length_append, List.length_append] at h1
        omega)
      have HWS := Aside0.mk (fun (s : ByteArray) (hs : s.data.toList = symL u) => ws_calls b acc s _ _ (HP6.out).bb hs (by have := HLA.out; omega) (Nat.le_of_lt (HP6.out).hbw))
      go_wp2_with fail
      refine ((HWS.out) _ ?_).mono ?_
      · first | rfl | (unfold symL; simp; done) | (unfold symL; simp; rfl)
      rintro E w7 ⟨rfl, hw⟩
      have HP7 := Aside0.mk ((HP6.out).write hw)
      clear hw HWS HLA hd hsz
      go_wp2
      go_roundg (sy.length - (j + 1))
      case measure => omega
      case rel => exact ⟨j + 1, acc ++ symL u, by omega, by omega, by first | rfl | (rw [wrap_succ (by omega) (by have := (HOK.out).ny; omega)]; rfl), HP7, HA6⟩
    · have hltz : ¬ (j : Int) < (sy.length : Int) := by omega
      have hje : j = sy.length := by omega
      subst hje
      have HA2 := Aside0.mk (show acc ++ fs.flatMap (funL sy fs) = putL sy fs by rw [← HA.out, List.drop_length]; rfl)
      obtain ⟨p0, p1⟩ := (HX.out).cells
      go_wp2
      clear p0 p1 HA
      go_loopg [38] fs.length (fun gg v38 wi => ∃ (j : Nat) (acc : List UInt8), j ≤ fs.length ∧ fs.length - j ≤ gg ∧ v38 = .int .i64 j ∧ Aside0 (PX w b (.slice A1 sy.length c1) (.slice A2 fs.length c2) acc wi) ∧ Aside0 (acc ++ (fs.drop j).flatMap (funL sy fs) = putL sy fs))
      case atStart => exact ⟨0, acc, by omega, by omega, rfl, HX, HA2⟩
      case round =>
        clear HX HA2
        obtain ⟨j, acc, hj, hgg, rfl, HX, HA⟩ := hrel
        by_cases hlt : j < fs.length
        · have hltz : (j : Int) < (fs.length : Int) := by omega
          obtain ⟨ad, As, cs, At, ct, e, hx0, hx1, hx2, hx3, hx4, hls, hCs, hlt4, hCt⟩ := at_T52 HF.out (j : Int) (by omega) hltz
          subst e
          rw [rdF_at hlt] at hx0 hx1 hx2 hx3 hx4 hls hCs hlt4 hCt
          rw [Int.toNat_natCast] at hx0 hx1 hx2 hx3 hx4
          replace hx0 := ((HX.out).hb.cell (World.block_lt_of_cell? w _ hx0)).trans hx0
          replace hx1 := ((HX.out).hb.cell (World.block_lt_of_cell? w _ hx1)).trans hx1
          replace hx2 := ((HX.out).hb.cell (World.block_lt_of_cell? w _ hx2)).trans hx2
          replace hx3 := ((HX.out).hb.cell (World.block_lt_of_cell? w _ hx3)).trans hx3
          replace hx4 := ((HX.out).hb.cell (World.block_lt_of_cell? w _ hx4)).trans hx4
          have HFD := Aside0.mk (flatMap_drop (g := funL sy fs) hlt)
          have HFN := Aside0.mk ((HOK.out).fnm _ (List.getElem_mem hlt))
          have HFS := Aside0.mk ((HOK.out).srt _ (List.getElem_mem hlt))
          have HFB := Aside0.mk ((HOK.out).bod _ (List.getElem_mem hlt))
          have HCs := Aside0.mk hCs
          have HLs := Aside0.mk hls
          have HCt := Aside0.mk hCt
          have HLt := Aside0.mk hlt4
          clear hCs hls hlt4 hCt
          generalize fs[j] = f at *
          go_upto_region 13 with (fail)
          have HX5 := Aside0.mk (blk_new wr (.cells #[.string f.f0, .slice As f.f1.f0.length cs, .int .i64 f.f2.f0, .int .i64 f.f2.f1, .slice At f.f2.f2.length ct] 52))
          have HP5 := Aside0.mk ((HX.out).below (below_alloc (Below.refl _ _) (.cells #[.string f.f0, .slice As f.f1.f0.length cs, .int .i64 f.f2.f0, .int .i64 f.f2.f1, .slice At f.f2.f2.length ct] 52)))
          have HNB := Aside0.mk (show wr.heap.size ≠ b from by have := (HX.out).hbw; omega)
          clear hx0 hx1 hx2 hx3 hx4 HX
          generalize (wr.alloc (.cells #[.string f.f0, .slice As f.f1.f0.length cs, .int .i64 f.f2.f0, .int .i64 f.f2.f1, .slice At f.f2.f2.length ct] 52)) = w5 at *
          generalize wr.heap.size = b7 at *
          have HKX := Aside0.mk (fun (W3 : World) (h : W3.heap[b7]? = some (.cells #[.string f.f0, .slice As f.f1.f0.length cs, .int .i64 f.f2.f0, .int .i64 f.f2.f1, .slice At f.f2.f2.length ct] 52 (0, 0))) => (show W3.cell? ⟨b7, 0, none⟩ = some (.string f.f0) ∧ W3.cell? ⟨b7, 1, none⟩ = some (.slice As f.f1.f0.length cs) ∧ W3.cell? ⟨b7, 2, none⟩ = some (.int .i64 f.f2.f0) ∧ W3.cell? ⟨b7, 3, none⟩ = some (.int .i64 f.f2.f1) ∧ W3.cell? ⟨b7, 4, none⟩ = some (.slice At f.f2.f2.length ct) from
            ⟨(blk_cell h 0).trans rfl, (blk_cell h 1).trans rfl, (blk_cell h 2).trans rfl, (blk_cell h 3).trans rfl, (blk_cell h 4).trans rfl⟩))
          obtain ⟨m0, m1, m2, m3, m4⟩ := HKX.out _ HX5.out
          have HSP := Aside0.mk (sput_calls f.f1 As cs w5 (Kd.C_below HCs.out (HP5.out).hb) HLs.out)
          rw [show sputV f.f1 = (srtS f.f1, 0) by unfold sputV; rw [(HFS.out).1]; rfl] at HSP
          have hsl : (srtS f.f1).length ≤ 360 := by have := srtS_len f.f1; have := srtB_N (HFS.out).1; omega
          have hsz : f.f0.size ≤ 24 := HFN.out
          go_wp2_with fail
          refine (HSP.out).mono ?_
          rintro E w6 ⟨rfl, hb⟩
          have HP6 := Aside0.mk ((HP5.out).below hb)
          have HX6 := Aside0.mk (blk_below HX5.out hb)
          clear hb m0 m1 m2 m3 m4 HP5 HX5 HSP
          obtain ⟨m0, m1, m2, m3, m4⟩ := HKX.out _ HX6.out
          have HA6 := Aside0.mk (show (acc ++ funL sy fs f) ++ (fs.drop (j + 1)).flatMap (funL sy fs) = putL sy fs by rw [← HA.out, HFD.out]; simp)
          have HLA := Aside0.mk (show acc.length + (funL sy fs f).length ≤ 1000000 by
            have h1 := HLN.out
            rw [← HA6.out, List.length_append, List.length_append] at h1
            omega)
          have HFL := Aside0.mk (show (funL sy fs f).length = 11 + f.f0.data.toList.length + (srtS f.f1).length + (trmS (hdS sy fs) f.f2).length from by unfold funL; simp only [List.length_append, List.length_cons, List.length_nil]; omega)
          have HWS := Aside0.mk (fun (s : ByteArray) (hs : s.data.toList = [102, 117, 110, 32] ++ (f.f0.data.toList ++ ([32, 58, 32] ++ (srtS f.f1 ++ [32, 61, 32])))) => ws_calls b acc s _ w6 (HP6.out).bb hs (by have := HLA.out; have := HFL.out; simp only [List.length_append, List.length_cons, List.length_nil]; omega) (Nat.le_of_lt (HP6.out).hbw))
          go_wp2_with fail
          refine ((HWS.out) _ ?_).mono ?_
          · first | rfl | (simp; done) | (simp; rfl)
          rintro E w7 ⟨rfl, hw⟩
          have HP7 := Aside0.mk ((HP6.out).write hw)
          have HX7 := Aside0.mk (hw.2.2.keep _ _ _ HNB.out (by decide) HX6.out)
          clear hw m0 m1 m2 m3 m4 HP6 HX6 HWS hsl hsz
          obtain ⟨m0, m1, m2, m3, m4⟩ := HKX.out _ HX7.out
          obtain ⟨p0, p1⟩ := (HP7.out).cells
          have HTW := Aside0.mk (twrite_calls sy fs A1 (some ad) c1 c2 f.f1.f0.length w HS.out HF.out (fun x hx => ((HOK.out).sym x hx).1) (HOK.out).fnm (by have := (HFS.out).2; omega) b (Nat.le_of_lt (HP7.out).hlt) 400 f.f2 (HFB.out).1 (by omega) (HFB.out).2 At ct (acc ++ ([102, 117, 110, 32] ++ (f.f0.data.toList ++ ([32, 58, 32] ++ (srtS f.f1 ++ [32, 61, 32]))))) w7 HCt.out HLt.out (HP7.out).hb (HP7.out).bb (HP7.out).hbw (by
            have := HLA.out; have := HFL.out; have := (HFB.out).1
            rw [List.length_append]
            simp only [List.length_append, List.length_cons, List.length_nil]
            omega))
          go_wp2_with fail
          refine (HTW.out).mono ?_
          rintro E w8 ⟨rfl, hw⟩
          have HP8 := Aside0.mk ((HP7.out).write hw)
          clear hw m0 m1 m2 m3 m4 p0 p1 HP7 HX7 HTW
          have HW10 := Aside0.mk (wb10 b _ w8 (HP8.out).bb (by
            have := HLA.out; have := HFL.out
            simp only [List.length_append, List.length_cons, List.length_nil]
            omega) (Nat.le_of_lt (HP8.out).hbw))
          go_wp2_with fail
          refine (HW10.out).mono ?_
          rintro E w9 ⟨rfl, hw⟩
          have HP9 := Aside0.mk ((HP8.out).write hw)
          have HFE := Aside0.mk (show acc ++ ([102, 117, 110, 32] ++ (f.f0.data.toList ++ ([32, 58, 32] ++ (srtS f.f1 ++ [32, 61, 32])))) ++ trmS (hdS sy fs) f.f2 ++ [10] = acc ++ funL sy fs f by unfold funL; simp)
          rw [HFE.out] at HP9
          clear hw HP8 HW10 HLA
          go_wp2
          go_roundg (fs.length - (j + 1))
          case measure => omega
          case rel => exact ⟨j + 1, acc ++ funL sy fs f, by omega, by omega, by first | rfl | (rw [wrap_succ (by omega) (by have := (HOK.out).nf; omega)]; rfl), HP9, HA6⟩
        · have hltz : ¬ (j : Int) < (fs.length : Int) := by omega
          have hje : j = fs.length := by omega
          subst hje
          have HACC := Aside0.mk (show acc = putL sy fs by rw [← HA.out, List.drop_length]; simp)
          have HLEN := Aside0.mk (show Calls Tryz.prog 49 #[.pointer (some ⟨b, 0, none⟩)] wr fun e w' => e = .returned (.int .i64 (acc.length : Int)) ∧ w' = wr from by
            have h := Tryz.Builder_Len b b (Lib.byteCells acc) wr (HX.out).bb
            rw [byteCells_len] at h
            exact h)
          have HSTR := Aside0.mk (Tryz.Builder_String_any b b acc wr (HX.out).bb (Nat.le_of_lt (HX.out).hbw))
          rw [← HACC.out] at HPV
          clear HA hj hgg hlt
          go_wp2_with fail
          refine (HLEN.out).mono ?_
          rintro E W0 ⟨rfl, rfl⟩
          cases q1 : decide ((acc.length : Int) > 65536) with
          | true =>
            have HP := Aside0.mk (show putV sy fs = ([], 3) by rw [HPV.out, if_pos (by have := of_decide_eq_true q1; omega)])
            go_wp2
            go_ret2
            exact ⟨by rw [HP.out]; rfl, (HX.out).hb⟩
          | false =>
            have HP := Aside0.mk (show putV sy fs = (acc, 0) by rw [HPV.out, if_neg (by have := of_decide_eq_false q1; omega)])
            go_wp2_with fail
            refine (HSTR.out).mono ?_
            rintro E W9 ⟨rfl, hb⟩
            have HB9 := Aside0.mk (Below.trans (HX.out).hb (Below.mono hb (Nat.le_of_lt (HX.out).hlt)))
            clear hb
            go_wp2
            go_ret2
            exact ⟨by rw [HP.out]; rfl, HB9.out⟩
end Go.Proofs.YthflpbgloeimfaaGreatDoor.H
namespace Go.Proofs.YthflpbgloeimfaaGreatDoor.H
open Go.RowKit Go.Proofs.YthflpbgloeimfaaGreatDoorW.PrintWords Go.Proofs.YthflpbgloeimfaaGreatDoorW.PrintLast Go.Proofs.YthflpbgloeimfaaGreatDoorW.PrintMore
open Go.Proofs.YthflpbgloeimfaaGreatDoor.Q (S47 k47 rd_T47 z47 at_T47 S50 k50 rd_T50 z50 at_T50 S52 k52 rd_T52 at_T52 z52 S71 k71 rd_T71 at_T71)
set_option linter.unusedVariables false
set_option linter.unusedSimpArgs false
def exL : List UInt8 := [115, 121, 109, 98, 111, 108, 32, 97, 32, 50, 10, 115, 121, 109, 98, 111, 108, 32, 98, 32, 49, 10, 115, 121, 109, 98, 111, 108, 32, 99, 32, 48, 10, 102, 117, 110, 32, 115, 32, 58, 32, 111, 32, 61, 32, 102, 32, 35, 99, 10, 102, 117, 110, 32, 102, 32, 58, 32, 111, 32, 62, 32, 111, 32, 61, 32, 35, 97, 32, 36, 48, 32, 40, 102, 32, 40, 35, 98, 32, 36, 48, 41, 41, 10]
def sy0 : List S71 := [⟨⟨#[97]⟩, 2⟩, ⟨⟨#[98]⟩, 1⟩, ⟨⟨#[99]⟩, 0⟩]
def fs0 : List S52 := [⟨⟨#[115]⟩, ⟨[]⟩, ⟨1, 1, [⟨2, 2, []⟩]⟩⟩, ⟨⟨#[102]⟩, ⟨[⟨[]⟩]⟩, ⟨2, 0, [⟨0, 0, []⟩, ⟨1, 1, [⟨2, 1, [⟨0, 0, []⟩]⟩]⟩]⟩⟩]
theorem ex_get : getR3 ⟨exL.toArray⟩ = (0, sy0, fs0) := by kernel_rfl
theorem ex_put : putV sy0 fs0 = (exL, 0) := by kernel_rfl
theorem ex_ord : ordV sy0 fs0 = (1, 0) := by kernel_rfl
theorem ex_sch : schV sy0 fs0 = 0 := by kernel_rfl
theorem get0_calls (w : World) (hm : MX w) : Calls Tryz.prog 19 #[.string ⟨exL.toArray⟩] w fun E w' => ∃ A1 c1 A2 c2, E = .returned (.tuple #[.agg #[.slice A1 sy0.length c1, .slice A2 fs0.length c2], .int .i64 0]) ∧ Kd.C k71 w' A1 sy0.length sy0 ∧ Kd.C k52 w' A2 fs0.length fs0 ∧ Below w.heap.size w w' := by
  refine (get3_calls ⟨exL.toArray⟩ w hm).mono ?_
  intro E w' h
  unfold GetE3 at h
  rw [ex_get] at h
  obtain ⟨A1, c1, A2, c2, rfl, h1, h2, h3, h4, h5⟩ := h
  exact ⟨A1, c1, A2, c2, rfl, h1, h3, h5⟩
theorem put0_calls (A1 : Option Addr) (c1 : Nat) (A2 : Option Addr) (c2 : Nat) (w : World) (hS : Kd.C k71 w A1 sy0.length sy0) (hF : Kd.C k52 w A2 fs0.length fs0) :
    Calls Tryz.prog 17 #[.agg #[.slice A1 sy0.length c1, .slice A2 fs0.length c2]] w fun E w' => E = .returned (.tuple #[.string ⟨exL.toArray⟩, .int .i64 0]) ∧ Below w.heap.size w w' := by
  refine (put_calls sy0 fs0 A1 A2 c1 c2 w hS hF).mono ?_
  intro E w' h
  unfold PutE at h
  rw [ex_put] at h
  exact h
theorem ord0_calls (A1 : Option Addr) (c1 : Nat) (A2 : Option Addr) (c2 : Nat) (w : World) (hS : Kd.C k71 w A1 sy0.length sy0) (hF : Kd.C k52 w A2 fs0.length fs0) :
    Calls Tryz.prog 24 #[.agg #[.slice A1 sy0.length c1, .slice A2 fs0.length c2]] w fun E w' => E = .returned (.tuple #[.int .i64 1, .int .i64 0]) ∧ Below w.heap.size w w' := by
  have h := sorderS_calls sy0 fs0 A1 A2 c1 c2 w hS hF
  rw [ex_ord] at h
  exact h
theorem sch0_calls (A1 : Option Addr) (c1 : Nat) (A2 : Option Addr) (c2 : Nat) (w : World) (hS : Kd.C k71 w A1 sy0.length sy0) (hF : Kd.C k52 w A2 fs0.length fs0) :
    Calls Tryz.prog 14 #[.agg #[.slice A1 sy0.length c1, .slice A2 fs0.length c2]] w fun E w' => E = .returned (.int .i64 0) ∧ Below w.heap.size w w' := by
  have h := scheme_calls sy0 fs0 A1 A2 c1 c2 w hS hF
  rw [ex_sch] at h
  exact h
theorem sy0_len : sy0.length = 3 := rfl
theorem fs0_len : fs0.length = 2 := rfl
theorem exL_list : (⟨exL.toArray⟩ : ByteArray).toList = exL := by rw [Lib.toList_data]
set_option maxHeartbeats 16000000 in
set_option maxRecDepth 100000 in
theorem alive_calls (w : World) (hm : MX w) : Calls Tryz.prog 16 #[] w fun E w' => E = .returned (.bool true) ∧ Below w.heap.size w w' := by
  have HG := Aside0.mk (get0_calls w hm)
  have HEL := Aside0.mk exL_list
  unfold exL at HG HEL
  rw [sy0_len, fs0_len] at HG
  clear hm
  go_enter Tryz.func16, Tryz.ntmps16
  go_wp2_with fail
  refine (HG.out).mono ?_
  rintro E w1 ⟨A1, c1, A2, c2, rfl, h1, h2, hb⟩
  have hba := below_alloc (Below.refl w1.heap.size w1) (.cells #[.slice A1 3 c1, .slice A2 2 c2] 25)
  have HB2 := Aside0.mk (below_then hb hb.size hba)
  have HX2 := Aside0.mk (blk_new w1 (.cells #[.slice A1 3 c1, .slice A2 2 c2] 25))
  have HS2 := Aside0.mk (Kd.C_below h1 hba)
  have HF2 := Aside0.mk (Kd.C_below h2 hba)
  clear h1 h2 hb hba HG
  go_upto_region 2 with (fail)
  generalize w1.alloc (.cells #[.slice A1 3 c1, .slice A2 2 c2] 25) = w2 at *
  generalize w1.heap.size = b1 at *
  have HK := Aside0.mk (fun (W : World) (hW : Below w2.heap.size w2 W) => (show W.cell? ⟨b1, 0, none⟩ = some (.slice A1 3 c1) ∧ W.cell? ⟨b1, 1, none⟩ = some (.slice A2 2 c2) from ⟨(blk_cell (blk_below HX2.out hW) 0).trans rfl, (blk_cell (blk_below HX2.out hW) 1).trans rfl⟩))
  have HP := Aside0.mk (put0_calls A1 c1 A2 c2 w2 HS2.out HF2.out)
  have HO := Aside0.mk (fun (W : World) (hW : Below w2.heap.size w2 W) => ord0_calls A1 c1 A2 c2 W (Kd.C_below HS2.out hW) (Kd.C_below HF2.out hW))
  have HC := Aside0.mk (fun (W : World) (hW : Below w2.heap.size w2 W) => sch0_calls A1 c1 A2 c2 W (Kd.C_below HS2.out hW) (Kd.C_below HF2.out hW))
  unfold exL at HP
  rw [sy0_len, fs0_len] at HP HO HC
  clear HS2 HF2 HX2
  obtain ⟨k0, k1⟩ := HK.out _ (Below.refl _ _)
  go_wp2_with fail
  refine (HP.out).mono ?_
  rintro E w3 ⟨rfl, hb⟩
  have HB3 := Aside0.mk hb
  clear hb k0 k1 HP
  obtain ⟨k0, k1⟩ := HK.out _ HB3.out
  go_wp2_with fail
  refine (HO.out _ HB3.out).mono ?_
  rintro E w4 ⟨rfl, hb⟩
  have HB4 := Aside0.mk (below_then HB3.out (HB3.out).size hb)
  clear hb k0 k1 HB3 HO
  obtain ⟨k0, k1⟩ := HK.out _ HB4.out
  go_wp2_with fail
  refine (HC.out _ HB4.out).mono ?_
  rintro E w5 ⟨rfl, hb⟩
  have HB5 := Aside0.mk (below_then HB4.out (HB4.out).size hb)
  clear hb k0 k1
  go_wp2
  go_ret
  exact ⟨rfl, below_then HB2.out (HB2.out).size HB5.out⟩
end Go.Proofs.YthflpbgloeimfaaGreatDoor.H
namespace Go.Proofs.YthflpbgloeimfaaGreatDoor.H
open Go.RowKit
set_option linter.unusedVariables false
set_option linter.unusedSimpArgs false
theorem index_one_none {c : UInt8} : ∀ {p : List UInt8}, c ∉ p → Lib.index p [c] = -1
  | [], _ => rfl
  | b :: l, h => by
    have hb : ¬ c = b := fun e => h (e ▸ List.mem_cons_self ..)
    have hl : c ∉ l := fun hm => h (List.mem_cons_of_mem _ hm)
    rw [Lib.index, index_one_none hl]
    have e : List.isPrefixOf [c] (b :: l) = false := by simp [List.isPrefixOf, hb]
    rw [e]; rfl
theorem index_one_hit {c : UInt8} : ∀ {p r : List UInt8}, c ∉ p → Lib.index (p ++ c :: r) [c] = p.length
  | [], r, _ => by rw [List.nil_append, Lib.index]; simp [List.isPrefixOf]
  | b :: l, r, h => by
    have hb : ¬ c = b := fun e => h (e ▸ List.mem_cons_self ..)
    have hl : c ∉ l := fun hm => h (List.mem_cons_of_mem _ hm)
    rw [List.cons_append, Lib.index, index_one_hit hl]
    have e : List.isPrefixOf [c] (b :: (l ++ c :: r)) = false := by simp [List.isPrefixOf, hb]
    rw [e]
    have : (((l.length : Nat) : Int) == -1) = false := by rw [beq_eq_false_iff_ne]; omega
    rw [this]
    simp
theorem index_one_cases (c : UInt8) (l : List UInt8) : (c ∉ l ∧ Lib.index l [c] = -1) ∨ ∃ p r, c ∉ p ∧ l = p ++ c :: r ∧ Lib.index l [c] = p.length := by
  by_cases h : c ∈ l
  · right
    obtain ⟨p, r, rfl, hp⟩ : ∃ p r, l = p ++ c :: r ∧ c ∉ p := by
      induction l with
      | nil => cases h
      | cons a t ih =>
        by_cases e : c = a
        · exact ⟨[], t, by rw [e]; rfl, by simp⟩
        · rcases List.mem_cons.1 h with h | h
          · exact absurd h e
          · obtain ⟨p, r, rfl, hp⟩ := ih h
            exact ⟨a :: p, r, rfl, by simp [e, hp]⟩
    exact ⟨p, r, hp, rfl, index_one_hit hp⟩
  · exact .inl ⟨h, index_one_none h⟩
theorem cut_none {c : UInt8} {p : List UInt8} (h : c ∉ p) : Lib.cut p [c] = (p, [], false) := by
  unfold Lib.cut
  rw [index_one_none h, if_neg (by decide)]
theorem cut_hit {c : UInt8} {p r : List UInt8} (h : c ∉ p) : Lib.cut (p ++ c :: r) [c] = (p, r, true) := by
  unfold Lib.cut
  rw [index_one_hit h, if_pos (by omega)]
  simp
theorem cut_true {c : UInt8} {l : List UInt8} (h : (Lib.cut l [c]).2.2 = true) : c ∉ (Lib.cut l [c]).1 ∧ l = (Lib.cut l [c]).1 ++ c :: (Lib.cut l [c]).2.1 := by
  rcases index_one_cases c l with ⟨h1, _⟩ | ⟨p, r, hp, rfl, _⟩
  · rw [cut_none h1] at h; cases h
  · rw [cut_hit hp]; exact ⟨hp, rfl⟩
def joinC (c : UInt8) : List (List UInt8) → List UInt8
  | [] => []
  | [p] => p
  | p :: q :: r => p ++ c :: joinC c (q :: r)
theorem joinC_cons (c : UInt8) (p : List UInt8) {r : List (List UInt8)} (h : r ≠ []) : joinC c (p :: r) = p ++ c :: joinC c r := by
  cases r with
  | nil => exact absurd rfl h
  | cons q r => rfl
theorem splitK_join (c : UInt8) : ∀ (k : Nat) (l : List UInt8), Lib.count l [c] = k → Lib.splitK [c] 0 k l ≠ [] ∧ joinC c (Lib.splitK [c] 0 k l) = l ∧ ∀ p ∈ Lib.splitK [c] 0 k l, c ∉ p
  | 0, l, h => by
    rw [Lib.splitK]
    refine ⟨by simp, rfl, fun p hp => ?_⟩
    obtain rfl := List.mem_singleton.1 hp
    rcases index_one_cases c p with ⟨h1, _⟩ | ⟨q, r, hq, e, hi⟩
    · exact h1
    · have := Lib.count_hit (s := p) (sub := [c]) (i := q.length) (by simp) hi
      omega
  | k + 1, l, h => by
    rcases index_one_cases c l with ⟨h1, h2⟩ | ⟨q, r, hq, rfl, hi⟩
    · have := Lib.count_miss h2; omega
    · have hc := Lib.count_hit (s := q ++ c :: r) (sub := [c]) (i := q.length) (by simp) hi
      have e : (q ++ c :: r).drop (q.length + 1) = r := by simp
      rw [show [c].length = 1 from rfl, e] at hc
      obtain ⟨h1, h2, h3⟩ := splitK_join c k r (by omega)
      rw [Lib.splitK, hi]
      have hm : (((q.length : Nat) : Int) == -1) = false := by rw [beq_eq_false_iff_ne]; omega
      rw [hm]
      simp only [Bool.false_eq_true, if_false, Int.toNat_natCast, Nat.add_zero]
      rw [show [c].length = 1 from rfl, e, List.take_left]
      refine ⟨by simp, ?_, ?_⟩
      · rw [joinC_cons c q h1, h2]
      · intro p hp
        rcases List.mem_cons.1 hp with rfl | hp
        · exact hq
        · exact h3 p hp
theorem joinC_inj (c : UInt8) : ∀ {a b : List (List UInt8)}, a ≠ [] → b ≠ [] → (∀ p ∈ a, c ∉ p) → (∀ p ∈ b, c ∉ p) → joinC c a = joinC c b → a = b := by
  have cut2 : ∀ {p q r s : List UInt8}, c ∉ p → c ∉ q → p ++ c :: r = q ++ c :: s → p = q ∧ r = s := by
    intro p q r s hp hq h
    have h1 := cut_hit (r := r) hp
    rw [h, cut_hit hq] at h1
    simp only [Prod.mk.injEq, and_true] at h1
    exact ⟨h1.1.symm, h1.2.symm⟩
  intro a
  induction a with
  | nil => intro b h; exact absurd rfl h
  | cons p r ih =>
    intro b _ hb ha' hb' h
    cases b with
    | nil => exact absurd rfl hb
    | cons q s =>
      have hp := ha' p (List.mem_cons_self ..)
      have hq := hb' q (List.mem_cons_self ..)
      by_cases hr : r = []
      · subst hr
        by_cases hs : s = []
        · subst hs; simp only [joinC] at h; rw [h]
        · rw [joinC_cons c q hs] at h
          simp only [joinC] at h
          rw [h] at hp
          exact absurd (by simp) hp
      · rw [joinC_cons c p hr] at h
        by_cases hs : s = []
        · subst hs
          simp only [joinC] at h
          rw [← h] at hq
          exact absurd (by simp) hq
        · rw [joinC_cons c q hs] at h
          obtain ⟨rfl, h2⟩ := cut2 hp hq h
          rw [ih hr hs (fun p hp => ha' p (List.mem_cons_of_mem _ hp)) (fun p hp => hb' p (List.mem_cons_of_mem _ hp)) h2]
def chunksL (s : ByteArray) (c : UInt8) : List (List UInt8) := (chunks s c).map (·.data.toList)
theorem chunksL_spec (s : ByteArray) (c : UInt8) : chunksL s c ≠ [] ∧ joinC c (chunksL s c) = s.data.toList ∧ ∀ p ∈ chunksL s c, c ∉ p := by
  unfold chunksL chunks
  rw [Lib.splitB_data]
  exact splitK_join c _ _ rfl
theorem chunksL_iff {s : ByteArray} {c : UInt8} {ps : List (List UInt8)} (h0 : ps ≠ []) (h1 : ∀ p ∈ ps, c ∉ p) (h2 : joinC c ps = s.data.toList) : chunksL s c = ps := by
  obtain ⟨k0, k1, k2⟩ := chunksL_spec s c
  exact joinC_inj c k0 h0 k2 h1 (k1.trans h2.symm)
theorem bytes_ext {a b : ByteArray} (h : a.data.toList = b.data.toList) : a = b := by
  rcases a with ⟨⟨a⟩⟩; rcases b with ⟨⟨b⟩⟩; simp at h; rw [h]
theorem dg_one {n : Nat} (h : n < 10) : dg n = [UInt8.ofNat (48 + n)] := by unfold dg; rw [Lib.decDigits, dif_pos h]
theorem dg_big {n : Nat} (h : ¬ n < 10) : dg n = dg (n / 10) ++ [UInt8.ofNat (48 + n % 10)] := by unfold dg; rw [Lib.decDigits, dif_neg h]
theorem dg_ne (n : Nat) : dg n ≠ [] := by
  by_cases h : n < 10
  · rw [dg_one h]; simp
  · rw [dg_big h]; simp
theorem digs_of {d : Nat} (h : d < 10) : digs.contains (UInt8.ofNat (48 + d)) = true ∧ Lib.digitVal (UInt8.ofNat (48 + d)) = some d := by
  have : d = 0 ∨ d = 1 ∨ d = 2 ∨ d = 3 ∨ d = 4 ∨ d = 5 ∨ d = 6 ∨ d = 7 ∨ d = 8 ∨ d = 9 := by omega
  rcases this with rfl | rfl | rfl | rfl | rfl | rfl | rfl | rfl | rfl | rfl <;> exact ⟨by decide, by decide⟩
theorem digs_to {x : UInt8} (h : digs.contains x = true) : ∃ d, d < 10 ∧ x = UInt8.ofNat (48 + d) := by
  unfold digs at h
  simp only [List.contains_cons, List.contains_nil, Bool.or_false, Bool.or_eq_true, beq_iff_eq] at h
  rcases h with rfl | rfl | rfl | rfl | rfl | rfl | rfl | rfl | rfl | rfl
  · exact ⟨0, by decide, rfl⟩
  · exact ⟨1, by decide, rfl⟩
  · exact ⟨2, by decide, rfl⟩
  · exact ⟨3, by decide, rfl⟩
  · exact ⟨4, by decide, rfl⟩
  · exact ⟨5, by decide, rfl⟩
  · exact ⟨6, by decide, rfl⟩
  · exact ⟨7, by decide, rfl⟩
  · exact ⟨8, by decide, rfl⟩
  · exact ⟨9, by decide, rfl⟩
theorem dg_digs (n : Nat) : ∀ x ∈ dg n, digs.contains x = true := by
  induction n using Nat.strongRecOn with
  | ind n ih =>
    intro x hx
    by_cases h : n < 10
    · rw [dg_one h] at hx
      obtain rfl := List.mem_singleton.1 hx
      exact (digs_of h).1
    · rw [dg_big h] at hx
      rcases List.mem_append.1 hx with hx | hx
      · exact ih (n / 10) (by omega) x hx
      · obtain rfl := List.mem_singleton.1 hx
        exact (digs_of (Nat.mod_lt _ (by decide))).1
theorem dg_not {c : UInt8} (h : digs.contains c = false) (n : Nat) : c ∉ dg n := fun hm => by rw [dg_digs n c hm] at h; cases h
theorem dec_one {d : Nat} (h : d < 10) (acc : Nat) : Lib.decFrom acc [UInt8.ofNat (48 + d)] = some (acc * 10 + d) := by
  rw [Lib.decFrom, (digs_of h).2]; rfl
theorem decFrom_app (l : List UInt8) (x : UInt8) (d : Nat) (hx : Lib.digitVal x = some d) : ∀ acc n, Lib.decFrom acc l = some n → Lib.decFrom acc (l ++ [x]) = some (n * 10 + d) := by
  induction l with
  | nil => intro acc n h; simp only [Lib.decFrom, Option.some.injEq] at h; subst h; simp [Lib.decFrom, hx]
  | cons a t ih =>
    intro acc n h
    simp only [Lib.decFrom, List.cons_append] at h ⊢
    cases ha : Lib.digitVal a with
    | none => simp [ha] at h
    | some e => simp only [ha] at h ⊢; exact ih _ _ h
theorem dec_dg (n : Nat) : Lib.decFrom 0 (dg n) = some n := by
  induction n using Nat.strongRecOn with
  | ind n ih =>
    by_cases h : n < 10
    · rw [dg_one h, dec_one h]; congr 1; omega
    · rw [dg_big h, decFrom_app _ _ (n % 10) (digs_of (Nat.mod_lt _ (by decide))).2 0 (n / 10) (ih _ (by omega))]
      congr 1; omega
theorem dg_head {n : Nat} (h : 1 ≤ n) : (dg n).head? ≠ some 48 := by
  induction n using Nat.strongRecOn with
  | ind n ih =>
    by_cases h10 : n < 10
    · rw [dg_one h10]
      have : n = 1 ∨ n = 2 ∨ n = 3 ∨ n = 4 ∨ n = 5 ∨ n = 6 ∨ n = 7 ∨ n = 8 ∨ n = 9 := by omega
      rcases this with rfl | rfl | rfl | rfl | rfl | rfl | rfl | rfl | rfl <;> decide
    · rw [dg_big h10]
      have h1 := ih (n / 10) (by omega) (by omega)
      cases e : dg (n / 10) with
      | nil => exact absurd e (dg_ne _)
      | cons a t => rw [e] at h1; simpa using h1
theorem dg_length {n k : Nat} (hk : 1 ≤ k) (h : n < 10 ^ k) : (dg n).length ≤ k := by
  induction k generalizing n with
  | zero => omega
  | succ k ih =>
    by_cases h10 : n < 10
    · rw [dg_one h10]; simp
    · rw [dg_big h10, List.length_append]
      rw [Nat.pow_succ] at h
      have hk1 : 1 ≤ k := by
        rcases Nat.eq_zero_or_pos k with rfl | hk
        · simp at h; omega
        · exact hk
      have := ih hk1 (n := n / 10) (by omega)
      simp; omega
theorem dec_inv : ∀ (l : List UInt8), l ≠ [] → (∀ x ∈ l, digs.contains x = true) → l.head? ≠ some 48 → ∃ n, 1 ≤ n ∧ Lib.decFrom 0 l = some n ∧ dg n = l := by
  intro l
  generalize hk : l.length = k
  induction k generalizing l with
  | zero => intro h; exact absurd (List.length_eq_zero_iff.1 hk) h
  | succ k ih =>
    intro h0 hd hh
    obtain ⟨r, x, rfl⟩ : ∃ r x, l = r ++ [x] := ⟨l.dropLast, l.getLast h0, (List.dropLast_concat_getLast h0).symm⟩
    obtain ⟨d, hd10, rfl⟩ := digs_to (hd x (by simp))
    by_cases hr : r = []
    · subst hr
      refine ⟨d, ?_, ?_, dg_one hd10⟩
      · rcases Nat.eq_zero_or_pos d with rfl | h
        · exact absurd rfl hh
        · exact h
      · rw [List.nil_append, dec_one hd10]; congr 1; omega
    · obtain ⟨n, h1, h2, h3⟩ := ih r (by simpa using hk) hr (fun x hx => hd x (by simp [hx])) (by
        cases r with
        | nil => exact absurd rfl hr
        | cons a t => simpa using hh)
      refine ⟨n * 10 + d, by omega, decFrom_app _ _ d (digs_of hd10).2 0 n h2, ?_⟩
      rw [dg_big (by omega), show (n * 10 + d) / 10 = n by omega, show (n * 10 + d) % 10 = d by omega, h3]
theorem trimS_all {l : List UInt8} (h : ∀ x ∈ l, digs.contains x = true) : Lib.trimS l digs = [] := by
  have dw : ∀ l : List UInt8, (∀ x ∈ l, digs.contains x = true) → l.dropWhile (digs.contains ·) = [] := by
    intro l
    induction l with
    | nil => intro _; rfl
    | cons a t ih =>
      intro h
      rw [List.dropWhile_cons, if_pos (h a (List.mem_cons_self ..))]
      exact ih fun x hx => h x (List.mem_cons_of_mem _ hx)
  unfold Lib.trimS Lib.trimLeftS Lib.trimRightS
  rw [dw l.reverse (fun x hx => h x (List.mem_reverse.1 hx))]
  rfl
theorem atoi_dg (n : Nat) : Lib.atoi (dg n) = some (n : Int) := by
  have hd := dec_dg n
  cases e : dg n with
  | nil => exact absurd e (dg_ne n)
  | cons a r =>
    obtain ⟨d, _, _, h45, h43⟩ := digit_val (dg_digs n a (by rw [e]; exact List.mem_cons_self ..))
    rw [e] at hd
    rw [Lib.atoi, if_neg (by simpa using h45), if_neg (by simpa using h43)]
    unfold Lib.decNat
    rw [if_neg (by simp), hd]
    rfl
theorem num_dg {n : Nat} (h : n ≤ 1000000000) : numOk (dg n) = true ∧ num0V (dg n) = n := by
  have hb : numBad (dg n) = false := by
    unfold numBad
    rw [decide_eq_false (dg_ne n), decide_eq_false (by have := dg_length (n := n) (k := 10) (by decide) (by omega); omega), decide_eq_true (trimS_all (dg_digs n))]
    by_cases h10 : n < 10
    · rw [dg_one h10]; simp
    · rw [decide_eq_false (dg_head (show 1 ≤ n by omega))]; rfl
  have hv := numV_eq (atoi_dg n)
  obtain ⟨h1, h2⟩ := num_good hb
  exact ⟨by rw [h2, h1, hv]; exact decide_eq_true (by omega), by rw [h1, hv]⟩
theorem num_inv {l : List UInt8} (h : numOk l = true) : ∃ n : Nat, n ≤ 1000000000 ∧ l = dg n ∧ num0V l = n := by
  have hb : numBad l = false := by
    unfold numOk at h
    simp only [Bool.and_eq_true, Bool.not_eq_true'] at h
    exact h.1
  obtain ⟨n, hl⟩ : ∃ n, l = dg n := by
    have hb2 := hb
    unfold numBad at hb2
    simp only [Bool.or_eq_false_iff, decide_eq_false_iff_not, Bool.not_eq_false', decide_eq_true_eq] at hb2
    obtain ⟨⟨⟨h1, h2⟩, h3⟩, h4⟩ := hb2
    have hall := trimS_nil h4
    by_cases hh : l.head? = some 48
    · have hlen : ¬ 1 < l.length := by
        intro hc
        rw [decide_eq_true hh, decide_eq_true hc] at h3
        cases h3
      cases l with
      | nil => exact absurd rfl h1
      | cons a r =>
        have : r = [] := by cases r with | nil => rfl | cons b r => simp at hlen
        subst this
        simp at hh
        subst hh
        exact ⟨0, by rw [dg_one (by decide)]; rfl⟩
    · obtain ⟨n, _, _, e⟩ := dec_inv l h1 hall hh
      exact ⟨n, e.symm⟩
  subst hl
  obtain ⟨h1, h2⟩ := num_good hb
  have hv := numV_eq (atoi_dg n)
  rw [h1, hv] at h2
  rw [h2] at h
  exact ⟨n, by have := of_decide_eq_true h; omega, rfl, by rw [h1, hv]⟩
end Go.Proofs.YthflpbgloeimfaaGreatDoor.H
namespace Go.Proofs.YthflpbgloeimfaaGreatDoor.H
open Go.RowKit
open Go.Proofs.YthflpbgloeimfaaGreatDoor.Q (S47 k47 rd_T47 z47 at_T47 S50 k50 rd_T50 z50 at_T50 S52 k52 rd_T52 at_T52 z52 S71 k71 rd_T71 at_T71)
set_option linter.unusedVariables false
set_option linter.unusedSimpArgs false
theorem hp_app (p l : List UInt8) : Lib.hasPrefix (p ++ l) p = true := by
  unfold Lib.hasPrefix
  exact List.isPrefixOf_iff_prefix.2 (List.prefix_append p l)
theorem hp_split {l p : List UInt8} (h : Lib.hasPrefix l p = true) : l = p ++ l.drop p.length := by
  unfold Lib.hasPrefix at h
  obtain ⟨r, rfl⟩ := List.isPrefixOf_iff_prefix.1 h
  simp
theorem hp_one {a c : UInt8} {l : List UInt8} : Lib.hasPrefix (a :: l) [c] = decide (c = a) := by
  unfold Lib.hasPrefix
  simp [List.isPrefixOf]
  by_cases h : c = a <;> simp [h]
theorem srtP_sound (n : Nat) : ∀ (acc : List S47) (l : List UInt8) (s : S47) (r : List UInt8), srtP n acc l = some (s, r) → ∃ a, s = ⟨acc ++ a⟩ ∧ l = srtSL a ++ 111 :: r ∧ Lib.hasPrefix r [32, 62, 32] = false := by
  induction n with
  | zero => intro acc l s r h; simp [srtP] at h
  | succ n ih =>
    intro acc l s r h
    rw [srtP] at h
    cases q : Lib.hasPrefix l [40] with
    | true =>
      rw [q, if_pos rfl] at h
      obtain ⟨⟨s1, r1⟩, h1, h⟩ := Option.bind_eq_some_iff.1 h
      obtain ⟨a1, rfl, e1, _⟩ := ih _ _ _ _ h1
      simp only [List.nil_append] at h
      by_cases hz : a1.length = 0
      · rw [if_pos hz] at h; cases h
      · rw [if_neg hz] at h
        cases q3 : Lib.hasPrefix r1 [41, 32, 62, 32] with
        | false => rw [q3] at h; simp at h
        | true =>
          rw [q3, if_pos rfl] at h
          obtain ⟨a2, rfl, e2, hr⟩ := ih _ _ _ _ h
          refine ⟨⟨a1⟩ :: a2, by simp, ?_, hr⟩
          have e0 := hp_split q
          have e3 := hp_split q3
          simp only [List.length_cons, List.length_nil] at e0 e3
          rw [e0, e1, e3, show (0 + 1 + 1 + 1 + 1) = 4 from rfl, e2, srtSL, wrapS, srtS, if_neg hz]
          simp
    | false =>
      rw [q] at h
      simp only [Bool.false_eq_true, if_false] at h
      cases q2 : Lib.hasPrefix l [111] with
      | false => rw [q2] at h; simp at h
      | true =>
        rw [q2, if_pos rfl] at h
        have e0 := hp_split q2
        simp only [List.length_cons, List.length_nil] at e0
        cases q3 : Lib.hasPrefix (l.drop 1) [32, 62, 32] with
        | true =>
          rw [q3, if_pos rfl] at h
          obtain ⟨a2, rfl, e2, hr⟩ := ih _ _ _ _ h
          refine ⟨⟨[]⟩ :: a2, by simp, ?_, hr⟩
          have e3 := hp_split q3
          simp only [List.length_cons, List.length_nil] at e3
          rw [e0, show (0 + 1) = 1 from rfl, e3, show (0 + 1 + 1 + 1) = 3 from rfl, e2, srtSL, wrapS, srtS, srtSL, if_pos (show (S47.mk []).f0.length = 0 from rfl)]
          simp
        | false =>
          rw [q3] at h
          simp only [Bool.false_eq_true, if_false, Option.some.injEq, Prod.mk.injEq] at h
          obtain ⟨rfl, rfl⟩ := h
          exact ⟨[], by simp, by rw [srtSL]; exact e0, q3⟩
theorem srtP_full (n : Nat) : ∀ (a acc : List S47) (r : List UInt8), Lib.hasPrefix r [32, 62, 32] = false → (srtSL a ++ 111 :: r).length < n → srtP n acc (srtSL a ++ 111 :: r) = some (⟨acc ++ a⟩, r) := by
  induction n with
  | zero => intro a acc r _ h; omega
  | succ n ih =>
    intro a acc r hr hn
    cases a with
    | nil =>
      rw [srtSL, List.nil_append, srtP, hp_one, hp_one, if_neg (by decide), if_pos (by decide)]
      simp only [List.drop_succ_cons, List.drop_zero]
      rw [hr]
      simp
    | cons x a2 =>
      obtain ⟨b⟩ := x
      rw [srtSL, wrapS, srtS] at hn ⊢
      cases b with
      | nil =>
        rw [if_pos (show (S47.mk []).f0.length = 0 from rfl), srtSL] at hn ⊢
        rw [show ([] ++ [111] ++ (32 :: 62 :: 32 :: srtSL a2) ++ 111 :: r : List UInt8) = 111 :: ([32, 62, 32] ++ (srtSL a2 ++ 111 :: r)) by simp] at hn ⊢
        rw [srtP, hp_one, hp_one, if_neg (by decide), if_pos (by decide)]
        simp only [List.drop_succ_cons, List.drop_zero]
        rw [hp_app, if_pos rfl, show ([32, 62, 32] ++ (srtSL a2 ++ 111 :: r) : List UInt8).drop 3 = srtSL a2 ++ 111 :: r from rfl, ih a2 _ r hr (by simp only [List.length_cons, List.length_append] at hn ⊢; omega)]
        simp
      | cons y b2 =>
        rw [if_neg (by simp)] at hn ⊢
        rw [show (40 :: (srtSL (y :: b2) ++ [111] ++ [41]) ++ (32 :: 62 :: 32 :: srtSL a2) ++ 111 :: r : List UInt8) = 40 :: (srtSL (y :: b2) ++ 111 :: ([41, 32, 62, 32] ++ (srtSL a2 ++ 111 :: r))) by simp] at hn ⊢
        rw [srtP, hp_one, if_pos (by decide)]
        simp only [List.drop_succ_cons, List.drop_zero]
        rw [ih (y :: b2) [] ([41, 32, 62, 32] ++ (srtSL a2 ++ 111 :: r)) rfl (by simp only [List.length_cons] at hn ⊢; omega)]
        simp only [Option.bind_some, List.nil_append]
        rw [if_neg (by simp), hp_app, if_pos rfl, show ([41, 32, 62, 32] ++ (srtSL a2 ++ 111 :: r) : List UInt8).drop 4 = srtSL a2 ++ 111 :: r from rfl, ih a2 _ r hr (by simp only [List.length_cons, List.length_append] at hn ⊢; omega)]
        simp
theorem srtR_sound {l : List UInt8} {s : S47} {r : List UInt8} (h : srtR [] l = some (s, r)) : l = srtS s ++ r ∧ Lib.hasPrefix r [32, 62, 32] = false := by
  obtain ⟨a, rfl, e, hr⟩ := srtP_sound _ _ _ _ _ h
  refine ⟨?_, hr⟩
  rw [e, List.nil_append, srtS]; simp
theorem srtR_full (s : S47) {r : List UInt8} (h : Lib.hasPrefix r [32, 62, 32] = false) : srtR [] (srtS s ++ r) = some (s, r) := by
  obtain ⟨a⟩ := s
  rw [srtS, show srtSL a ++ [111] ++ r = srtSL a ++ 111 :: r by simp]
  exact srtP_full _ a [] r h (Nat.lt_succ_self _)
def sch (x : UInt8) : Bool := decide (x = 111) || decide (x = 32) || decide (x = 62) || decide (x = 40) || decide (x = 41)
theorem srtS_chars_aux (n : Nat) : ∀ t : S47, sN t ≤ n → ∀ x ∈ srtS t, sch x = true := by
  induction n with
  | zero => intro t h; have := sN_pos t; omega
  | succ n ih =>
    intro t h
    obtain ⟨l⟩ := t
    rw [sN] at h
    have : ∀ l : List S47, sNL l ≤ n → ∀ x ∈ srtSL l, sch x = true := by
      intro l
      induction l with
      | nil => intro _ x hx; simp [srtSL] at hx
      | cons a r ihr =>
        intro h x hx
        rw [sNL] at h
        rw [srtSL, List.mem_append] at hx
        have h1 := ih a (by omega)
        have h2 := ihr (by omega)
        rcases hx with hx | hx
        · unfold wrapS at hx
          split at hx
          · exact h1 x hx
          · simp only [List.mem_cons, List.mem_append, List.mem_nil_iff, or_false] at hx
            rcases hx with rfl | hx | rfl
            · rfl
            · exact h1 x hx
            · rfl
        · simp only [List.mem_cons] at hx
          rcases hx with rfl | rfl | rfl | hx
          · rfl
          · rfl
          · rfl
          · exact h2 x hx
    intro x hx
    rw [srtS, List.mem_append] at hx
    rcases hx with hx | hx
    · exact this l (by omega) x hx
    · obtain rfl := List.mem_singleton.1 hx; rfl
theorem srtS_chars (t : S47) : ∀ x ∈ srtS t, sch x = true := srtS_chars_aux _ t (Nat.le_refl _)
def tmG (hd : List UInt8 → Option ((Int × Int) × List UInt8)) : Nat → Int × Int → List S50 → List UInt8 → Option (S50 × List UInt8)
  | 0, _, _, _ => none
  | n + 1, kn, acc, l =>
    if Lib.hasPrefix l [32] = true then
      (if Lib.hasPrefix (l.drop 1) [40] = true then
        (hd ((l.drop 1).drop 1)).bind fun p => (tmG hd n p.1 [] p.2).bind fun q =>
          if q.1.f2.length = 0 then none else if Lib.hasPrefix q.2 [41] = true then tmG hd n kn (acc ++ [q.1]) (q.2.drop 1) else none
      else (hd (l.drop 1)).bind fun p => tmG hd n kn (acc ++ [⟨p.1.1, p.1.2, []⟩]) p.2)
    else some (⟨kn.1, kn.2, acc⟩, l)
theorem tmP_tmG (e1 e2 : Ents) (n : Nat) : ∀ (kn : Int × Int) (acc : List S50) (l : List UInt8), tmP e1 e2 n kn acc l = tmG (hdR e1 e2) n kn acc l := by
  induction n with
  | zero => intro kn acc l; rfl
  | succ n ih =>
    intro kn acc l
    rw [tmP, tmG]
    simp only [ih]
mutual
def tAll (ok : Int → Int → Bool) : S50 → Bool
  | ⟨k, n, l⟩ => ok k n && tAllL ok l
def tAllL (ok : Int → Int → Bool) : List S50 → Bool
  | [] => true
  | a :: r => tAll ok a && tAllL ok r
end
structure HdG (hd : List UInt8 → Option ((Int × Int) × List UInt8)) (hs : Int → Int → List UInt8) (ok : Int → Int → Bool) (D : List UInt8 → Prop) : Prop where
  sound : ∀ l k n r, hd l = some ((k, n), r) → l = hs k n ++ r ∧ ok k n = true
  full : ∀ k n r, ok k n = true → D r → hd (hs k n ++ r) = some ((k, n), r)
  ne : ∀ k n, ok k n = true → 1 ≤ (hs k n).length ∧ (hs k n).head? ≠ some 40
  d32 : ∀ r, D (32 :: r)
  d41 : ∀ r, D (41 :: r)
theorem tmG_sound {hd : List UInt8 → Option ((Int × Int) × List UInt8)} {hs : Int → Int → List UInt8} {ok : Int → Int → Bool} {D : List UInt8 → Prop} (H : HdG hd hs ok D) (n : Nat) :
    ∀ (kn : Int × Int) (acc : List S50) (l : List UInt8) (t : S50) (r : List UInt8), tmG hd n kn acc l = some (t, r) → ∃ a, t = ⟨kn.1, kn.2, acc ++ a⟩ ∧ l = trmSL hs a ++ r ∧ tAllL ok a = true ∧ Lib.hasPrefix r [32] = false := by
  induction n with
  | zero => intro kn acc l t r h; simp [tmG] at h
  | succ n ih =>
    intro kn acc l t r h
    rw [tmG] at h
    by_cases q : Lib.hasPrefix l [32] = true
    · rw [if_pos q] at h
      have e0 := hp_split q
      simp only [List.length_cons, List.length_nil] at e0
      by_cases q2 : Lib.hasPrefix (l.drop 1) [40] = true
      · rw [if_pos q2] at h
        have e1 := hp_split q2
        simp only [List.length_cons, List.length_nil] at e1
        obtain ⟨⟨⟨k, m⟩, r1⟩, h1, h⟩ := Option.bind_eq_some_iff.1 h
        obtain ⟨⟨t1, r2⟩, h2, h⟩ := Option.bind_eq_some_iff.1 h
        obtain ⟨hx, hok⟩ := H.sound _ _ _ _ h1
        obtain ⟨a1, rfl, e2, ha, _⟩ := ih _ _ _ _ _ h2
        simp only at e2
        simp only [List.nil_append] at h
        by_cases hz : a1.length = 0
        · rw [if_pos hz] at h; cases h
        · rw [if_neg hz] at h
          by_cases q3 : Lib.hasPrefix r2 [41] = true
          · rw [if_pos q3] at h
            have e3 := hp_split q3
            simp only [List.length_cons, List.length_nil] at e3
            obtain ⟨a2, rfl, e4, ha2, hr⟩ := ih _ _ _ _ _ h
            refine ⟨⟨k, m, a1⟩ :: a2, by simp, ?_, by rw [tAllL, tAll, hok, ha, ha2]; rfl, hr⟩
            rw [e0, show (0 + 1) = 1 from rfl, e1, show (0 + 1) = 1 from rfl, hx, e2, e3, show (0 + 1) = 1 from rfl, e4, trmSL, wrapT, trmS, if_neg hz]
            simp
          · rw [if_neg q3] at h; cases h
      · rw [if_neg q2] at h
        obtain ⟨⟨⟨k, m⟩, r1⟩, h1, h⟩ := Option.bind_eq_some_iff.1 h
        obtain ⟨hx, hok⟩ := H.sound _ _ _ _ h1
        obtain ⟨a2, rfl, e4, ha2, hr⟩ := ih _ _ _ _ _ h
        simp only at e4
        refine ⟨⟨k, m, []⟩ :: a2, by simp, ?_, by rw [tAllL, tAll, hok, tAllL, ha2]; rfl, hr⟩
        rw [e0, show (0 + 1) = 1 from rfl, hx, e4, trmSL, wrapT, trmS, trmSL, if_pos (show (S50.mk k m []).f2.length = 0 from rfl)]
        simp
    · rw [if_neg q] at h
      simp only [Option.some.injEq, Prod.mk.injEq] at h
      obtain ⟨rfl, rfl⟩ := h
      exact ⟨[], by simp, by simp [trmSL], rfl, by simpa using q⟩
theorem tmG_full {hd : List UInt8 → Option ((Int × Int) × List UInt8)} {hs : Int → Int → List UInt8} {ok : Int → Int → Bool} {D : List UInt8 → Prop} (H : HdG hd hs ok D) (n : Nat) :
    ∀ (a : List S50) (kn : Int × Int) (acc : List S50) (r : List UInt8), tAllL ok a = true → Lib.hasPrefix r [32] = false → D r → (trmSL hs a ++ r).length < n → tmG hd n kn acc (trmSL hs a ++ r) = some (⟨kn.1, kn.2, acc ++ a⟩, r) := by
  induction n with
  | zero => intro a kn acc r _ _ _ h; omega
  | succ n ih =>
    intro a kn acc r ha hr hD hn
    have dnext : ∀ a2, D (trmSL hs a2 ++ r) := by
      intro a2
      cases a2 with
      | nil => rw [trmSL]; exact hD
      | cons x a2 => rw [trmSL]; exact H.d32 _
    cases a with
    | nil =>
      rw [trmSL, List.nil_append, tmG, if_neg (by rw [hr]; exact Bool.false_ne_true)]
      simp
    | cons x a2 =>
      obtain ⟨k, m, b⟩ := x
      rw [tAllL, tAll, Bool.and_eq_true, Bool.and_eq_true] at ha
      obtain ⟨⟨hok, hb⟩, ha2⟩ := ha
      obtain ⟨hl, hh⟩ := H.ne k m hok
      rw [trmSL, wrapT, trmS] at hn ⊢
      cases b with
      | nil =>
        rw [if_pos (show (S50.mk k m []).f2.length = 0 from rfl), trmSL] at hn ⊢
        rw [show (32 :: (hs k m ++ [] ++ trmSL hs a2) ++ r : List UInt8) = 32 :: (hs k m ++ (trmSL hs a2 ++ r)) by simp] at hn ⊢
        have h40 : Lib.hasPrefix (hs k m ++ (trmSL hs a2 ++ r)) [40] = false := by
          cases e : hs k m with
          | nil => rw [e] at hl; simp at hl
          | cons c u =>
            rw [e] at hh
            simp only [List.head?_cons, ne_eq, Option.some.injEq] at hh
            rw [List.cons_append, hp_one, decide_eq_false (Ne.symm hh)]
        rw [tmG, hp_one, if_pos (by decide)]
        simp only [List.drop_succ_cons, List.drop_zero]
        rw [h40, if_neg (by decide), H.full k m _ hok (dnext a2)]
        simp only [Option.bind_some]
        rw [ih a2 kn _ r ha2 hr hD (by simp only [List.length_cons, List.length_append] at hn ⊢; omega)]
        simp
      | cons y b2 =>
        rw [if_neg (by simp)] at hn ⊢
        rw [show (32 :: (40 :: (hs k m ++ trmSL hs (y :: b2) ++ [41]) ++ trmSL hs a2) ++ r : List UInt8) = 32 :: 40 :: (hs k m ++ (trmSL hs (y :: b2) ++ 41 :: (trmSL hs a2 ++ r))) by simp] at hn ⊢
        rw [tmG, hp_one, if_pos (by decide)]
        simp only [List.drop_succ_cons, List.drop_zero]
        rw [hp_one, if_pos (by decide), H.full k m _ hok (by rw [trmSL]; exact H.d32 _)]
        simp only [Option.bind_some]
        rw [ih (y :: b2) (k, m) [] (41 :: (trmSL hs a2 ++ r)) hb (by rw [hp_one]; decide) (H.d41 _) (by simp only [List.length_cons, List.length_append] at hn ⊢; omega)]
        simp only [Option.bind_some, List.nil_append]
        rw [if_neg (by simp), hp_one, if_pos (by decide), List.drop_succ_cons, List.drop_zero, ih a2 kn _ r ha2 hr hD (by simp only [List.length_cons, List.length_append] at hn ⊢; omega)]
        simp
def tmRG (hd : List UInt8 → Option ((Int × Int) × List UInt8)) (l : List UInt8) : Option (S50 × List UInt8) := (hd l).bind fun p => tmG hd (p.2.length + 1) p.1 [] p.2
theorem tmR_tmRG (e1 e2 : Ents) (l : List UInt8) : tmR e1 e2 l = tmRG (hdR e1 e2) l := by
  unfold tmR tmRG tmA
  simp only [tmP_tmG]
theorem tmRG_sound {hd : List UInt8 → Option ((Int × Int) × List UInt8)} {hs : Int → Int → List UInt8} {ok : Int → Int → Bool} {D : List UInt8 → Prop} (H : HdG hd hs ok D) {l : List UInt8} {t : S50} {r : List UInt8} (h : tmRG hd l = some (t, r)) :
    l = trmS hs t ++ r ∧ tAll ok t = true ∧ Lib.hasPrefix r [32] = false := by
  unfold tmRG at h
  obtain ⟨⟨⟨k, m⟩, r1⟩, h1, h⟩ := Option.bind_eq_some_iff.1 h
  obtain ⟨hx, hok⟩ := H.sound _ _ _ _ h1
  obtain ⟨a, rfl, e, ha, hr⟩ := tmG_sound H _ _ _ _ _ _ h
  simp only [List.nil_append] at e ⊢
  exact ⟨by rw [hx, e, trmS]; simp, by rw [tAll, hok, ha]; rfl, hr⟩
theorem tmRG_full {hd : List UInt8 → Option ((Int × Int) × List UInt8)} {hs : Int → Int → List UInt8} {ok : Int → Int → Bool} {D : List UInt8 → Prop} (H : HdG hd hs ok D) {t : S50} {r : List UInt8} (ht : tAll ok t = true) (hr : Lib.hasPrefix r [32] = false) (hD : D r) :
    tmRG hd (trmS hs t ++ r) = some (t, r) := by
  obtain ⟨k, m, a⟩ := t
  rw [tAll, Bool.and_eq_true] at ht
  unfold tmRG
  rw [trmS, List.append_assoc, H.full k m _ ht.1 (by
    cases a with
    | nil => rw [trmSL]; exact hD
    | cons x a2 => rw [trmSL]; exact H.d32 _)]
  simp only [Option.bind_some]
  rw [tmG_full H _ a (k, m) [] r ht.2 hr hD (Nat.lt_succ_self _)]
  simp
end Go.Proofs.YthflpbgloeimfaaGreatDoor.H
namespace Go.Proofs.YthflpbgloeimfaaGreatDoor.H
open Go.RowKit Go.Proofs.YthflpbgloeimfaaGreatDoorW.PrintWords
open Go.Proofs.YthflpbgloeimfaaGreatDoor.Q (S47 k47 rd_T47 z47 at_T47 S50 k50 rd_T50 z50 at_T50 S52 k52 rd_T52 at_T52 z52 S71 k71 rd_T71 at_T71)
set_option linter.unusedVariables false
set_option linter.unusedSimpArgs false
instance lawfulBA : LawfulBEq ByteArray where
  eq_of_beq {a b} h := by
    rcases a with ⟨a⟩
    rcases b with ⟨b⟩
    have h2 : (a == b) = true := h
    rw [eq_of_beq h2]
  rfl {a} := by
    rcases a with ⟨a⟩
    exact beq_self_eq_true a
theorem mget_nmE_aux (n : Nat) : ∀ (l : List ByteArray), l.length = n → ∀ x, mget x (nmE l) = if x ∈ l then some (l.idxOf x : Int) else none := by
  induction n with
  | zero =>
    intro l hl x
    obtain rfl := List.eq_nil_of_length_eq_zero hl
    rfl
  | succ n ih =>
    intro l hl x
    have hne : l ≠ [] := by rintro rfl; simp at hl
    obtain ⟨m, y, rfl⟩ : ∃ m y, l = m ++ [y] := ⟨l.dropLast, l.getLast hne, (List.dropLast_concat_getLast hne).symm⟩
    have hm : m.length = n := by simpa using hl
    have ihx := ih m hm
    rw [nmE_snoc, ihx y]
    have happ : ∀ (es : Ents) (p : ByteArray × Int), mget x (es ++ [p]) = (mget x es).or (if p.1 = x then some p.2 else none) := by
      intro es p
      unfold mget
      rw [List.find?_append, Option.map_or]
      congr 1
      by_cases h : p.1 = x <;> simp [h]
    by_cases hy : y ∈ m
    · rw [if_pos hy, if_neg (by simp), ihx x]
      by_cases hx : x ∈ m
      · rw [if_pos hx, if_pos (by simp [hx]), List.idxOf_append, if_pos hx]
      · rw [if_neg hx, if_neg (by
          simp only [List.mem_append, List.mem_singleton, not_or]
          exact ⟨hx, fun e => hx (e ▸ hy)⟩)]
    · rw [if_neg hy, if_pos rfl, happ, ihx x]
      by_cases hx : x ∈ m
      · rw [if_pos hx, if_pos (show x ∈ m ++ [y] by simp [hx]), List.idxOf_append, if_pos hx]; rfl
      · rw [if_neg hx, Option.none_or]
        by_cases e : y = x
        · subst e
          rw [if_pos rfl, if_pos (by simp), List.idxOf_append, if_neg hx]
          simp
        · rw [if_neg e, if_neg (by simp only [List.mem_append, List.mem_singleton, not_or]; exact ⟨hx, fun e2 => e e2.symm⟩)]
theorem mget_nmE (x : ByteArray) (l : List ByteArray) : mget x (nmE l) = if x ∈ l then some (l.idxOf x : Int) else none := mget_nmE_aux _ l rfl x
theorem idxOf_at {l : List ByteArray} {x : ByteArray} (h : x ∈ l) : l[l.idxOf x]? = some x := by
  have h1 := List.idxOf_lt_length_of_mem h
  rw [List.getElem?_eq_getElem h1, List.getElem_idxOf h1]
def dlm (r : List UInt8) : Prop := r = [] ∨ ∃ c u, r = c :: u ∧ (c = 32 ∨ c = 40 ∨ c = 41)
theorem indexAny_hit {x : List UInt8} (hx : ∀ c ∈ x, c ≠ 32 ∧ c ≠ 40 ∧ c ≠ 41) (u : List UInt8) (c : UInt8) (hc : c = 32 ∨ c = 40 ∨ c = 41) : Lib.indexAny (x ++ c :: u) [32, 40, 41] = x.length := by
  induction x with
  | nil => rw [List.nil_append]; unfold Lib.indexAny; rcases hc with rfl | rfl | rfl <;> simp
  | cons a r ih =>
    obtain ⟨h1, h2, h3⟩ := hx a (List.mem_cons_self ..)
    have ih := ih (fun c hc => hx c (List.mem_cons_of_mem _ hc))
    rw [List.cons_append]
    unfold Lib.indexAny
    rw [ih]
    have e : ([32, 40, 41] : List UInt8).contains a = false := by simp [h1, h2, h3]
    have e2 : (((r.length : Nat) : Int) == -1) = false := by rw [beq_eq_false_iff_ne]; omega
    simp [e, e2, h1, h2, h3]
theorem indexAny_none {x : List UInt8} (hx : ∀ c ∈ x, c ≠ 32 ∧ c ≠ 40 ∧ c ≠ 41) : Lib.indexAny x [32, 40, 41] = -1 := by
  induction x with
  | nil => rfl
  | cons a r ih =>
    obtain ⟨h1, h2, h3⟩ := hx a (List.mem_cons_self ..)
    have ih := ih (fun c hc => hx c (List.mem_cons_of_mem _ hc))
    unfold Lib.indexAny
    rw [ih]
    simp [h1, h2, h3]
theorem wordN_app {x : List UInt8} (hx : ∀ c ∈ x, c ≠ 32 ∧ c ≠ 40 ∧ c ≠ 41) {r : List UInt8} (hr : dlm r) : wordN (x ++ r) = x.length := by
  unfold wordN
  rcases hr with rfl | ⟨c, u, rfl, hc⟩
  · rw [List.append_nil, indexAny_none hx, if_pos (by decide)]
  · rw [indexAny_hit hx u c hc, if_neg (by omega)]; rfl
def dch (c : UInt8) : Bool := digs.contains c
theorem dch_wch {c : UInt8} (h : dch c = true) : wch c = true := by
  obtain ⟨d, hd, rfl⟩ := digs_to h
  have : d = 0 ∨ d = 1 ∨ d = 2 ∨ d = 3 ∨ d = 4 ∨ d = 5 ∨ d = 6 ∨ d = 7 ∨ d = 8 ∨ d = 9 := by omega
  rcases this with rfl | rfl | rfl | rfl | rfl | rfl | rfl | rfl | rfl | rfl <;> decide
theorem wch_ne {c : UInt8} (h : wch c = true) : c ≠ 32 ∧ c ≠ 40 ∧ c ≠ 41 ∧ c ≠ 10 ∧ c ≠ 35 ∧ c ≠ 36 ∧ c ≠ 58 ∧ c ≠ 61 := by
  refine ⟨?_, ?_, ?_, ?_, ?_, ?_, ?_, ?_⟩ <;> (rintro rfl; revert h; decide)
theorem nameB_wch {s : ByteArray} (h : nameB s = true) : ∀ c ∈ s.data.toList, wch c = true := by
  unfold nameB nameL at h
  simp only [Bool.and_eq_true] at h
  exact List.all_eq_true.1 h.2
theorem nameB_ne {s : ByteArray} (h : nameB s = true) : s.data.toList ≠ [] := by
  unfold nameB nameL at h
  simp only [Bool.and_eq_true, decide_eq_true_eq] at h
  intro e
  rw [e] at h
  simp at h
theorem nameB_head {s : ByteArray} (h : nameB s = true) : ∃ c u, s.data.toList = c :: u ∧ wch c = true := by
  cases e : s.data.toList with
  | nil => exact absurd e (nameB_ne h)
  | cons c u => exact ⟨c, u, rfl, nameB_wch h c (by rw [e]; exact List.mem_cons_self ..)⟩
def hsN (a b : List ByteArray) (k n : Int) : List UInt8 := if k = 0 then 36 :: dg n.toNat else if k = 1 then (b.getD n.toNat ByteArray.empty).data.toList else 35 :: (a.getD n.toNat ByteArray.empty).data.toList
def okAt (l : List ByteArray) (n : Int) : Bool := decide (0 ≤ n) && decide (n.toNat < l.length) && decide (l.idxOf (l.getD n.toNat ByteArray.empty) = n.toNat) && nameB (l.getD n.toNat ByteArray.empty)
def hsOk (a b : List ByteArray) (k n : Int) : Bool := if k = 0 then decide (0 ≤ n) && decide (n ≤ 1000000000) else if k = 1 then okAt b n else if k = 2 then okAt a n else false
theorem okAt_of {l : List ByteArray} {x : ByteArray} (h : x ∈ l) (hn : nameB x = true) : okAt l (l.idxOf x : Int) = true ∧ l.getD (l.idxOf x : Int).toNat ByteArray.empty = x := by
  have h1 := List.idxOf_lt_length_of_mem h
  have h2 := idxOf_at h
  have h3 : l.getD (l.idxOf x) ByteArray.empty = x := by rw [List.getD_eq_getElem?_getD, h2]; rfl
  refine ⟨?_, by rw [Int.toNat_natCast]; exact h3⟩
  unfold okAt
  rw [Int.toNat_natCast, h3, hn]
  simp [h1]
theorem okAt_to {l : List ByteArray} {n : Int} (h : okAt l n = true) : ∃ x, l.getD n.toNat ByteArray.empty = x ∧ x ∈ l ∧ (l.idxOf x : Int) = n ∧ nameB x = true := by
  unfold okAt at h
  simp only [Bool.and_eq_true, decide_eq_true_eq] at h
  obtain ⟨⟨⟨h1, h2⟩, h3⟩, h4⟩ := h
  refine ⟨_, rfl, ?_, by rw [h3]; omega, h4⟩
  rw [List.getD_eq_getElem?_getD, List.getElem?_eq_getElem h2]
  exact List.getElem_mem h2
theorem hs_chars {a b : List ByteArray} {k n : Int} (h : hsOk a b k n = true) : ∃ c u, hsN a b k n = c :: u ∧ (c = 36 ∨ c = 35 ∨ wch c = true) ∧ ∀ x ∈ u, wch x = true := by
  unfold hsOk at h
  unfold hsN
  by_cases h0 : k = 0
  · rw [if_pos h0] at h ⊢
    exact ⟨36, _, rfl, .inl rfl, fun x hx => dch_wch (dg_digs _ x hx)⟩
  · rw [if_neg h0] at h ⊢
    by_cases h1 : k = 1
    · rw [if_pos h1] at h ⊢
      obtain ⟨x, e, _, _, hn⟩ := okAt_to h
      rw [e]
      obtain ⟨c, u, e2, hc⟩ := nameB_head hn
      exact ⟨c, u, e2, .inr (.inr hc), fun y hy => nameB_wch hn y (by rw [e2]; exact List.mem_cons_of_mem _ hy)⟩
    · rw [if_neg h1] at h ⊢
      by_cases h2 : k = 2
      · rw [if_pos h2] at h
        obtain ⟨x, e, _, _, hn⟩ := okAt_to h
        rw [e]
        exact ⟨35, _, rfl, .inr (.inl rfl), nameB_wch hn⟩
      · rw [if_neg h2] at h; cases h
theorem hs_plain {a b : List ByteArray} {k n : Int} (h : hsOk a b k n = true) : ∀ x ∈ hsN a b k n, x ≠ 32 ∧ x ≠ 40 ∧ x ≠ 41 ∧ x ≠ 10 := by
  obtain ⟨c, u, e, hc, hu⟩ := hs_chars h
  intro x hx
  rw [e] at hx
  rcases List.mem_cons.1 hx with rfl | hx
  · rcases hc with rfl | rfl | hc
    · decide
    · decide
    · have := wch_ne hc; exact ⟨this.1, this.2.1, this.2.2.1, this.2.2.2.1⟩
  · have := wch_ne (hu x hx); exact ⟨this.1, this.2.1, this.2.2.1, this.2.2.2.1⟩
theorem hs_ne {a b : List ByteArray} {k n : Int} (h : hsOk a b k n = true) : 1 ≤ (hsN a b k n).length ∧ (hsN a b k n).head? ≠ some 40 := by
  obtain ⟨c, u, e, _⟩ := hs_chars h
  refine ⟨by rw [e]; simp, fun h2 => ?_⟩
  rw [e] at h2
  have hc : c = 40 := by simpa using h2
  exact (hs_plain h c (by rw [e]; exact List.mem_cons_self ..)).2.1 hc
theorem hp_cons_ne {a c : UInt8} {l : List UInt8} (h : a ≠ c) : Lib.hasPrefix (a :: l) [c] = false := by rw [hp_one, decide_eq_false (Ne.symm h)]
theorem ba_list (s : ByteArray) : (⟨s.data.toList.toArray⟩ : ByteArray) = s := bytes_ext rfl
theorem hdR_G (a b : List ByteArray) : HdG (hdR (nmE a) (nmE b)) (hsN a b) (hsOk a b) dlm := by
  refine ⟨?_, ?_, fun k n h => hs_ne h, fun r => .inr ⟨32, r, rfl, .inl rfl⟩, fun r => .inr ⟨41, r, rfl, .inr (.inr rfl)⟩⟩
  · intro l k n r h
    have hl : l = l.take (wordN l) ++ l.drop (wordN l) := (List.take_append_drop _ _).symm
    unfold hdR at h
    generalize l.take (wordN l) = w at *
    generalize l.drop (wordN l) = rest at *
    unfold hdW at h
    by_cases q : Lib.hasPrefix w [36] = true
    · rw [if_pos q] at h
      have e := hp_split q
      simp only [List.length_cons, List.length_nil] at e
      have et : Lib.trimPrefix w [36] = w.drop 1 := by unfold Lib.trimPrefix; rw [if_pos q]; rfl
      rw [et] at h
      split at h
      · rename_i hok
        obtain ⟨m, hm, e1, e2⟩ := num_inv hok
        simp only [Option.some.injEq, Prod.mk.injEq] at h
        obtain ⟨⟨rfl, rfl⟩, rfl⟩ := h
        rw [e2]
        refine ⟨?_, ?_⟩
        · rw [hl]
          unfold hsN
          rw [if_pos rfl, Int.toNat_natCast, ← e1]
          conv => lhs; rw [e]
          simp
        · unfold hsOk; rw [if_pos rfl]; simp; omega
      · cases h
    · rw [if_neg q] at h
      by_cases q2 : Lib.hasPrefix w [35] = true
      · have e := hp_split q2
        simp only [List.length_cons, List.length_nil] at e
        have et : Lib.trimPrefix w [35] = w.drop 1 := by unfold Lib.trimPrefix; rw [if_pos q2]; rfl
        rw [et, if_pos q2, if_pos q2, mget_nmE] at h
        by_cases hm : (⟨(w.drop 1).toArray⟩ : ByteArray) ∈ a
        · rw [if_pos hm] at h
          simp only at h
          split at h
          · rename_i hn
            obtain ⟨h1, h2⟩ := okAt_of hm hn
            simp only [Option.some.injEq, Prod.mk.injEq] at h
            obtain ⟨⟨rfl, rfl⟩, rfl⟩ := h
            refine ⟨?_, ?_⟩
            · rw [hl]
              unfold hsN
              rw [if_neg (by decide), if_neg (by decide), h2]
              conv => lhs; rw [e]
              simp
            · unfold hsOk; rw [if_neg (by decide), if_neg (by decide), if_pos rfl, h1]
          · cases h
        · rw [if_neg hm] at h; cases h
      · have et : Lib.trimPrefix w [35] = w := by unfold Lib.trimPrefix; rw [if_neg q2]
        rw [et, if_neg q2, if_neg q2, mget_nmE] at h
        by_cases hm : (⟨w.toArray⟩ : ByteArray) ∈ b
        · rw [if_pos hm] at h
          simp only at h
          split at h
          · rename_i hn
            obtain ⟨h1, h2⟩ := okAt_of hm hn
            simp only [Option.some.injEq, Prod.mk.injEq] at h
            obtain ⟨⟨rfl, rfl⟩, rfl⟩ := h
            refine ⟨?_, ?_⟩
            · rw [hl]
              unfold hsN
              rw [if_neg (by decide), if_pos rfl, h2]
            · unfold hsOk; rw [if_neg (by decide), if_pos rfl, h1]
          · cases h
        · rw [if_neg hm] at h; cases h
  · intro k n r h hr
    have hp := hs_plain h
    have hw := wordN_app (fun c hc => ⟨(hp c hc).1, (hp c hc).2.1, (hp c hc).2.2.1⟩) hr
    unfold hdR
    rw [hw, List.take_left, List.drop_left]
    unfold hsOk at h
    unfold hdW hsN
    by_cases h0 : k = 0
    · rw [if_pos h0] at h ⊢
      subst h0
      simp only [Bool.and_eq_true, decide_eq_true_eq] at h
      obtain ⟨m, rfl⟩ := Int.eq_ofNat_of_zero_le h.1
      have hd := num_dg (n := m) (by omega)
      have et : Lib.trimPrefix (36 :: dg (m : Int).toNat) [36] = dg m := by unfold Lib.trimPrefix; rw [hp_one, if_pos (by decide)]; simp
      rw [hp_one, if_pos (by decide), et, if_pos hd.1, hd.2]
    · rw [if_neg h0] at h ⊢
      by_cases h1 : k = 1
      · rw [if_pos h1] at h ⊢
        subst h1
        obtain ⟨x, e, hm, hi, hn⟩ := okAt_to h
        rw [e]
        obtain ⟨c, u, e2, hc⟩ := nameB_head hn
        have hc2 := wch_ne hc
        have q : Lib.hasPrefix x.data.toList [36] = false := by rw [e2]; exact hp_cons_ne hc2.2.2.2.2.2.1
        have q2 : Lib.hasPrefix x.data.toList [35] = false := by rw [e2]; exact hp_cons_ne hc2.2.2.2.2.1
        have et : Lib.trimPrefix x.data.toList [35] = x.data.toList := by unfold Lib.trimPrefix; rw [if_neg (by rw [q2]; exact Bool.false_ne_true)]
        rw [if_neg (by rw [q]; exact Bool.false_ne_true), et, ba_list, if_neg (by rw [q2]; exact Bool.false_ne_true), if_neg (by rw [q2]; exact Bool.false_ne_true), mget_nmE, if_pos hm]
        simp only
        rw [if_pos hn, hi]
      · rw [if_neg h1] at h ⊢
        by_cases h2 : k = 2
        · rw [if_pos h2] at h
          subst h2
          obtain ⟨x, e, hm, hi, hn⟩ := okAt_to h
          rw [e]
          have et : Lib.trimPrefix (35 :: x.data.toList) [35] = x.data.toList := by unfold Lib.trimPrefix; rw [hp_one, if_pos (by decide)]; simp
          rw [hp_cons_ne (by decide), if_neg (by decide), et, ba_list, hp_one, if_pos (by decide), if_pos (by decide), mget_nmE, if_pos hm]
          simp only
          rw [if_pos hn, hi]
        · rw [if_neg h2] at h; cases h
end Go.Proofs.YthflpbgloeimfaaGreatDoor.H
namespace Go.Proofs.YthflpbgloeimfaaGreatDoor.H
open Go.RowKit Go.Proofs.YthflpbgloeimfaaGreatDoorW.PrintWords
open Go.Proofs.YthflpbgloeimfaaGreatDoor.Q (S47 k47 rd_T47 z47 at_T47 S50 k50 rd_T50 z50 at_T50 S52 k52 rd_T52 at_T52 z52 S71 k71 rd_T71 at_T71)
set_option linter.unusedVariables false
set_option linter.unusedSimpArgs false
theorem index3 {c : UInt8} (hc : c ≠ 32) : ∀ {x y : List UInt8}, c ∉ x → Lib.index (x ++ 32 :: c :: 32 :: y) [32, c, 32] = x.length
  | [], y, _ => by rw [List.nil_append, Lib.index]; simp [List.isPrefixOf]
  | b :: x, y, h => by
    have hx : c ∉ x := fun hm => h (List.mem_cons_of_mem _ hm)
    have e : List.isPrefixOf [32, c, 32] (b :: (x ++ 32 :: c :: 32 :: y)) = false := by
      cases x with
      | nil => simp [List.isPrefixOf, hc]
      | cons a x =>
        have ha : c ≠ a := fun e => hx (e ▸ List.mem_cons_self ..)
        simp [List.isPrefixOf, ha]
    rw [List.cons_append, Lib.index, index3 hc hx, e]
    have : (((x.length : Nat) : Int) == -1) = false := by rw [beq_eq_false_iff_ne]; omega
    rw [this]
    simp
theorem cut3 {c : UInt8} (hc : c ≠ 32) {x y : List UInt8} (h : c ∉ x) : Lib.cut (x ++ 32 :: c :: 32 :: y) [32, c, 32] = (x, y, true) := by
  unfold Lib.cut
  rw [index3 hc h, if_pos (by omega)]
  simp
theorem cut_sound {l sep : List UInt8} (h : (Lib.cut l sep).2.2 = true) : l = (Lib.cut l sep).1 ++ (sep ++ (Lib.cut l sep).2.1) := by
  unfold Lib.cut at h ⊢
  by_cases q : 0 ≤ Lib.index l sep
  · rw [if_pos q]
    simp only
    rcases Lib.index_spec l sep with ⟨h1, _⟩ | ⟨i, h1, h2, h3, _⟩
    · omega
    · rw [h1, Int.toNat_natCast]
      have h4 := hp_split (l := l.drop i) (p := sep) h3
      rw [List.drop_drop] at h4
      conv => lhs; rw [← List.take_append_drop i l, h4]
  · rw [if_neg q] at h; cases h
structure It where
  nm : ByteArray
  s : S47
  b : ByteArray
def yok (y : S71) : Bool := nameB y.f0 && decide (0 ≤ y.f1) && decide (y.f1 ≤ 1000000000)
def symB (y : S71) : List UInt8 := pSym ++ (y.f0.data.toList ++ 32 :: dg y.f1.toNat)
def funB (i : It) : List UInt8 := pFun ++ (i.nm.data.toList ++ 32 :: 58 :: 32 :: (srtS i.s ++ 32 :: 61 :: 32 :: i.b.data.toList))
def rawS (s : S47) : S47 := if schkV s = 0 then s else ⟨[]⟩
def pushIt (g : GSt) (i : It) : GSt := { sy := g.sy, fs := g.fs ++ [⟨i.nm, rawS i.s, ⟨0, 0, []⟩⟩], bo := g.bo ++ [i.b], large := g.large || decide (schkV i.s ≠ 0) }
theorem symR_iff {l : List UInt8} {y : S71} : symR l = some y ↔ yok y = true ∧ l = y.f0.data.toList ++ 32 :: dg y.f1.toNat := by
  constructor
  · intro h
    unfold symR at h
    split at h
    · rename_i hc
      obtain ⟨h1, h2, h3⟩ := hc
      obtain ⟨k1, k2⟩ := cut_true h1
      obtain ⟨n, hn, e1, e2⟩ := num_inv h2
      obtain rfl := Option.some.inj h
      refine ⟨?_, ?_⟩
      · unfold yok
        simp only [h3, e2]
        simp; omega
      · simp only [e2, Int.toNat_natCast]
        rw [← e1]
        exact k2
    · cases h
  · rintro ⟨h, rfl⟩
    unfold yok at h
    simp only [Bool.and_eq_true, decide_eq_true_eq] at h
    obtain ⟨n, hn⟩ := Int.eq_ofNat_of_zero_le h.1.2
    have hnm := nameB_wch h.1.1
    have hc : (32 : UInt8) ∉ y.f0.data.toList := fun hm => (wch_ne (hnm _ hm)).1 rfl
    have hd := num_dg (n := n) (by omega)
    unfold symR
    rw [cut_hit hc, hn, Int.toNat_natCast]
    simp only [ba_list]
    rw [if_pos ⟨trivial, hd.1, h.1.1⟩, hd.2, ← hn]
theorem getSV_iff {t : ByteArray} {s : S47} : getSV t = some s ↔ t.data.toList = srtS s := by
  unfold getSV
  constructor
  · intro h
    obtain ⟨⟨s1, r⟩, h1, h2⟩ := Option.bind_eq_some_iff.1 h
    obtain ⟨e, _⟩ := srtR_sound h1
    simp only at h2
    split at h2
    · rename_i hr
      obtain rfl := Option.some.inj h2
      rw [e, hr, List.append_nil]
    · cases h2
  · intro h
    have := srtR_full s (r := []) rfl
    rw [List.append_nil] at this
    rw [h, this]
    rfl
theorem getSR_of {t : ByteArray} {s : S47} (hs : t.size ≤ 65536) (h : getSV t = some s) : (getSR t).1 ≠ 4 ∧ (getSR t).2 = rawS s ∧ decide ((getSR t).1 ≠ 0) = decide (schkV s ≠ 0) := by
  by_cases q : schkV s = 0
  · have e : getSR t = (0, s) := by unfold getSR; rw [if_neg (by omega), h]; simp only; rw [if_pos q]
    unfold rawS
    rw [e, if_pos q]
    exact ⟨by show (0 : Int) ≠ 4; decide, rfl, by simp [q]⟩
  · have e : getSR t = (6, ⟨[]⟩) := by unfold getSR; rw [if_neg (by omega), h]; simp only; rw [if_neg q]
    unfold rawS
    rw [e, if_neg q]
    exact ⟨by decide, rfl, by simp [q]⟩
theorem arr_size (l : List UInt8) : (⟨l.toArray⟩ : ByteArray).size = l.length := List.size_toArray
theorem trim_hit (p l : List UInt8) : Lib.trimPrefix (p ++ l) p = l := by unfold Lib.trimPrefix; rw [if_pos (hp_app p l)]; simp
theorem lnStep_sound {g g2 : GSt} {s : ByteArray} (hs : s.size ≤ 65536) (h : lnStep g s = some g2) :
    (∃ y, g.fs = [] ∧ yok y = true ∧ s.data.toList = symB y ∧ g2 = { g with sy := g.sy ++ [y] }) ∨ ∃ i, nameB i.nm = true ∧ s.data.toList = funB i ∧ g2 = pushIt g i := by
  unfold lnStep at h
  simp only at h
  split at h
  · rename_i hc
    obtain ⟨y, hy, rfl⟩ := Option.map_eq_some_iff.1 h
    have e := hp_split hc.1
    have e2 : Lib.trimPrefix s.data.toList pSym = s.data.toList.drop pSym.length := by unfold Lib.trimPrefix; rw [if_pos hc.1]
    rw [e2] at hy
    obtain ⟨h1, h2⟩ := symR_iff.1 hy
    refine .inl ⟨y, List.eq_nil_of_length_eq_zero hc.2, h1, ?_, rfl⟩
    unfold symB
    rw [← h2]; exact e
  · split at h
    · rename_i hc
      obtain ⟨h1, h2, h3, h4⟩ := hc
      have e := hp_split h1
      have e2 : Lib.trimPrefix s.data.toList pFun = s.data.toList.drop pFun.length := by unfold Lib.trimPrefix; rw [if_pos h1]
      rw [e2] at h h2 h3 h4
      have c1 := cut_sound h2
      have c2 := cut_sound h3
      have hz : (ByteArray.mk (Lib.cut (Lib.cut (s.data.toList.drop pFun.length) [32, 58, 32]).2.1 [32, 61, 32]).1.toArray).size ≤ 65536 := by
        rw [arr_size]
        have i1 := (cut_size (s.data.toList.drop pFun.length) [32, 58, 32]).2
        have i2 := (cut_size (Lib.cut (s.data.toList.drop pFun.length) [32, 58, 32]).2.1 [32, 61, 32]).1
        rw [List.length_drop, ← Lib.size_eq] at i1
        omega
      cases q : getSV ⟨(Lib.cut (Lib.cut (s.data.toList.drop pFun.length) [32, 58, 32]).2.1 [32, 61, 32]).1.toArray⟩ with
      | none =>
        rw [getSR_bad hz q] at h
        simp at h
      | some so =>
        obtain ⟨k1, k2, k3⟩ := getSR_of hz q
        rw [if_neg k1, k2, k3] at h
        obtain rfl := Option.some.inj h
        have q2 := getSV_iff.1 q
        refine .inr ⟨⟨⟨(Lib.cut (s.data.toList.drop pFun.length) [32, 58, 32]).1.toArray⟩, so, ⟨(Lib.cut (Lib.cut (s.data.toList.drop pFun.length) [32, 58, 32]).2.1 [32, 61, 32]).2.1.toArray⟩⟩, h4, ?_, rfl⟩
        unfold funB
        simp only
        rw [← q2]
        conv => lhs; rw [e, c1, c2]
        simp
    · cases h
theorem lnStep_sym {g : GSt} {s : ByteArray} {y : S71} (hg : g.fs = []) (hy : yok y = true) (h : s.data.toList = symB y) : lnStep g s = some { g with sy := g.sy ++ [y] } := by
  unfold lnStep
  simp only
  rw [h]
  unfold symB
  rw [if_pos ⟨hp_app _ _, by rw [hg]; rfl⟩, trim_hit, symR_iff.2 ⟨hy, rfl⟩]
  rfl
theorem lnStep_fun {g : GSt} {s : ByteArray} {i : It} (hs : s.size ≤ 65536) (hn : nameB i.nm = true) (h : s.data.toList = funB i) : lnStep g s = some (pushIt g i) := by
  have hnm := nameB_wch hn
  have hc : (58 : UInt8) ∉ i.nm.data.toList := fun hm => (wch_ne (hnm _ hm)).2.2.2.2.2.2.1 rfl
  have hc2 : (61 : UInt8) ∉ srtS i.s := fun hm => by have := srtS_chars i.s _ hm; revert this; decide
  have hlen := congrArg List.length h
  rw [← Lib.size_eq] at hlen
  have hz : (ByteArray.mk (srtS i.s).toArray).size ≤ 65536 := by
    rw [arr_size]
    unfold funB at hlen
    simp only [List.length_append, List.length_cons] at hlen
    omega
  obtain ⟨k1, k2, k3⟩ := getSR_of hz (getSV_iff.2 rfl)
  unfold lnStep
  simp only
  rw [h]
  unfold funB
  rw [if_neg (fun x => by
    have := x.1
    unfold Lib.hasPrefix pSym pFun at this
    simp [List.isPrefixOf] at this), trim_hit, cut3 (by decide) hc, cut3 (by decide) hc2]
  simp only [ba_list]
  rw [if_pos ⟨hp_app _ _, trivial, trivial, hn⟩, if_neg k1, k2, k3]
  rfl
theorem lnAll_sound : ∀ (L : List ByteArray) (g g2 : GSt), (∀ s ∈ L, s.size ≤ 65536) → lnAll g L = some g2 →
    ∃ (sy : List S71) (its : List It), (sy ≠ [] → g.fs = []) ∧ (∀ y ∈ sy, yok y = true) ∧ (∀ i ∈ its, nameB i.nm = true) ∧ L.map (·.data.toList) = sy.map symB ++ its.map funB ∧ g2 = its.foldl pushIt { g with sy := g.sy ++ sy } := by
  intro L
  induction L with
  | nil =>
    intro g g2 _ h
    obtain rfl := Option.some.inj h
    exact ⟨[], [], fun h => absurd rfl h, by simp, by simp, rfl, by simp⟩
  | cons s r ih =>
    intro g g2 hz h
    rw [lnAll] at h
    obtain ⟨g1, h1, h⟩ := Option.bind_eq_some_iff.1 h
    obtain ⟨sy, its, k1, k2, k3, k4, k5⟩ := ih g1 g2 (fun x hx => hz x (List.mem_cons_of_mem _ hx)) h
    rcases lnStep_sound (hz s (List.mem_cons_self ..)) h1 with ⟨y, hg, hy, he, rfl⟩ | ⟨i, hn, he, rfl⟩
    · refine ⟨y :: sy, its, fun _ => hg, ?_, k3, ?_, ?_⟩
      · intro z hz
        rcases List.mem_cons.1 hz with rfl | hz
        · exact hy
        · exact k2 z hz
      · rw [List.map_cons, k4, he]; rfl
      · rw [k5]; simp
    · have hsy : sy = [] := by
        cases sy with
        | nil => rfl
        | cons a b =>
          have := k1 (by simp)
          unfold pushIt at this
          simp at this
      subst hsy
      refine ⟨[], i :: its, fun h => absurd rfl h, by simp, ?_, ?_, ?_⟩
      · intro z hz
        rcases List.mem_cons.1 hz with rfl | hz
        · exact hn
        · exact k3 z hz
      · rw [List.map_cons, k4, he]; rfl
      · rw [k5]; simp
theorem lnAll_fun : ∀ (its : List It) (L : List ByteArray) (g : GSt), (∀ s ∈ L, s.size ≤ 65536) → (∀ i ∈ its, nameB i.nm = true) → L.map (·.data.toList) = its.map funB → lnAll g L = some (its.foldl pushIt g) := by
  intro its
  induction its with
  | nil =>
    intro L g _ _ h
    have : L = [] := by simpa using h
    rw [this]; rfl
  | cons i r ih =>
    intro L g hz hn h
    cases L with
    | nil => simp at h
    | cons s L =>
      simp only [List.map_cons, List.cons.injEq] at h
      rw [lnAll, lnStep_fun (hz s (List.mem_cons_self ..)) (hn i (List.mem_cons_self ..)) h.1]
      simp only [Option.bind_some, List.foldl_cons]
      exact ih L _ (fun x hx => hz x (List.mem_cons_of_mem _ hx)) (fun x hx => hn x (List.mem_cons_of_mem _ hx)) h.2
theorem lnAll_full : ∀ (sy : List S71) (its : List It) (L : List ByteArray) (g : GSt), g.fs = [] → (∀ s ∈ L, s.size ≤ 65536) → (∀ y ∈ sy, yok y = true) → (∀ i ∈ its, nameB i.nm = true) → L.map (·.data.toList) = sy.map symB ++ its.map funB →
    lnAll g L = some (its.foldl pushIt { g with sy := g.sy ++ sy }) := by
  intro sy
  induction sy with
  | nil =>
    intro its L g hg hz _ hn h
    rw [List.append_nil]
    exact lnAll_fun its L g hz hn h
  | cons y r ih =>
    intro its L g hg hz hy hn h
    cases L with
    | nil => simp at h
    | cons s L =>
      simp only [List.map_cons, List.cons_append, List.cons.injEq] at h
      rw [lnAll, lnStep_sym hg (hy y (List.mem_cons_self ..)) h.1]
      simp only [Option.bind_some]
      rw [ih its L { g with sy := g.sy ++ [y] } hg (fun x hx => hz x (List.mem_cons_of_mem _ hx)) (fun x hx => hy x (List.mem_cons_of_mem _ hx)) hn h.2]
      simp
theorem foldl_push (its : List It) : ∀ g : GSt, its.foldl pushIt g = ⟨g.sy, g.fs ++ its.map (fun i => ⟨i.nm, rawS i.s, ⟨0, 0, []⟩⟩), g.bo ++ its.map (·.b), g.large || its.any (fun i => decide (schkV i.s ≠ 0))⟩ := by
  induction its with
  | nil => intro g; simp
  | cons i r ih =>
    intro g
    rw [List.foldl_cons, ih]
    unfold pushIt
    simp [Bool.or_assoc]
def endL (l : List UInt8) : List UInt8 := l ++ [10]
theorem joinC_end (ls : List (List UInt8)) : joinC 10 (ls ++ [[]]) = ls.flatMap endL := by
  induction ls with
  | nil => rfl
  | cons p r ih => rw [List.cons_append, joinC_cons 10 p (by simp), ih, List.flatMap_cons]; simp [endL]
theorem symB_10 {y : S71} (h : yok y = true) : (10 : UInt8) ∉ symB y := by
  unfold yok at h
  simp only [Bool.and_eq_true, decide_eq_true_eq] at h
  unfold symB pSym
  simp only [List.mem_append, List.mem_cons, List.mem_nil_iff, or_false, not_or]
  exact ⟨⟨by decide, by decide, by decide, by decide, by decide, by decide, by decide⟩, fun hm => (wch_ne (nameB_wch h.1.1 _ hm)).2.2.2.1 rfl, by decide, dg_not (by decide) _⟩
theorem funB_10 {i : It} (h : nameB i.nm = true) (hb : (10 : UInt8) ∉ i.b.data.toList) : (10 : UInt8) ∉ funB i := by
  unfold funB pFun
  simp only [List.mem_append, List.mem_cons, List.mem_nil_iff, or_false, not_or]
  exact ⟨⟨by decide, by decide, by decide, by decide⟩, fun hm => (wch_ne (nameB_wch h _ hm)).2.2.2.1 rfl, by decide, by decide, by decide, fun hm => by have := srtS_chars i.s _ hm; revert this; decide, by decide, by decide, by decide, hb⟩
def getL (t : ByteArray) : Option GSt :=
  if (chunks t 10).getD ((chunks t 10).length - 1) ByteArray.empty = ByteArray.empty then lnAll ⟨[], [], [], false⟩ ((chunks t 10).take ((chunks t 10).length - 1)) else none
theorem chunk_mem {t s : ByteArray} (h : s ∈ chunks t 10) : s.size ≤ t.size := splitB_size _ _ _ _ h
def TX (sy : List S71) (its : List It) : List UInt8 := (sy.map symB ++ its.map funB).flatMap endL
theorem getL_sound {t : ByteArray} (hs : t.size ≤ 65536) {g : GSt} (h : getL t = some g) :
    ∃ (sy : List S71) (its : List It), (∀ y ∈ sy, yok y = true) ∧ (∀ i ∈ its, nameB i.nm = true ∧ (10 : UInt8) ∉ i.b.data.toList) ∧ t.data.toList = TX sy its ∧ g = ⟨sy, its.map (fun i => ⟨i.nm, rawS i.s, ⟨0, 0, []⟩⟩), its.map (·.b), its.any (fun i => decide (schkV i.s ≠ 0))⟩ := by
  unfold getL at h
  split at h
  · rename_i hlast
    obtain ⟨k0, k1, k2⟩ := chunksL_spec t 10
    have hpos := chunks_pos t 10
    obtain ⟨sy, its, j1, j2, j3, j4, j5⟩ := lnAll_sound _ _ _ (fun s hm => Nat.le_trans (chunk_mem (List.mem_of_mem_take hm)) hs) h
    have hL : chunksL t 10 = (sy.map symB ++ its.map funB) ++ [[]] := by
      rw [← j4]
      unfold chunksL
      have e : chunks t 10 = (chunks t 10).take ((chunks t 10).length - 1) ++ [ByteArray.empty] := by
        conv => lhs; rw [← List.take_append_drop ((chunks t 10).length - 1) (chunks t 10)]
        congr 1
        rw [List.drop_eq_getElem_cons (by omega), List.drop_eq_nil_of_le (by omega)]
        rw [List.getD_eq_getElem?_getD, List.getElem?_eq_getElem (by omega)] at hlast
        simp only [Option.getD_some] at hlast
        rw [hlast]
      conv => lhs; rw [e]
      simp
    rw [hL] at k1 k2
    rw [joinC_end] at k1
    refine ⟨sy, its, j2, fun i hi => ⟨j3 i hi, fun hm => ?_⟩, k1.symm, by rw [j5, foldl_push]; simp⟩
    refine k2 (funB i) (by simp only [List.mem_append, List.mem_map]; exact .inl (.inr ⟨i, hi, rfl⟩)) ?_
    unfold funB
    simp [hm]
  · cases h
theorem getL_full {t : ByteArray} (hs : t.size ≤ 65536) {sy : List S71} {its : List It} (hy : ∀ y ∈ sy, yok y = true) (hi : ∀ i ∈ its, nameB i.nm = true ∧ (10 : UInt8) ∉ i.b.data.toList) (ht : t.data.toList = TX sy its) :
    getL t = some ⟨sy, its.map (fun i => ⟨i.nm, rawS i.s, ⟨0, 0, []⟩⟩), its.map (·.b), its.any (fun i => decide (schkV i.s ≠ 0))⟩ := by
  have hL : chunksL t 10 = (sy.map symB ++ its.map funB) ++ [[]] := by
    refine chunksL_iff (by simp) ?_ (by rw [joinC_end, ht]; rfl)
    intro p hp
    simp only [List.mem_append, List.mem_map, List.mem_singleton] at hp
    rcases hp with (⟨y, h1, rfl⟩ | ⟨i, h1, rfl⟩) | rfl
    · exact symB_10 (hy y h1)
    · exact funB_10 (hi i h1).1 (hi i h1).2
    · simp
  have hlen : (chunks t 10).length = (sy.map symB ++ its.map funB).length + 1 := by
    have := congrArg List.length hL
    unfold chunksL at this
    simpa [Nat.add_assoc] using this
  unfold getL
  have hlast : (chunks t 10).getD ((chunks t 10).length - 1) ByteArray.empty = ByteArray.empty := by
    apply bytes_ext
    have e : (chunksL t 10)[(chunks t 10).length - 1]? = some [] := by
      rw [hL, hlen, Nat.add_sub_cancel]
      simp
    unfold chunksL at e
    rw [List.getElem?_map] at e
    obtain ⟨x, hx, e⟩ := Option.map_eq_some_iff.1 e
    rw [List.getD_eq_getElem?_getD, hx]
    exact e
  have htake : ((chunks t 10).take ((chunks t 10).length - 1)).map (·.data.toList) = sy.map symB ++ its.map funB := by
    rw [List.map_take, show (chunks t 10).map (·.data.toList) = chunksL t 10 from rfl, hL, hlen, Nat.add_sub_cancel, List.take_left]
  rw [if_pos hlast, lnAll_full sy its _ _ rfl (fun s hm => Nat.le_trans (chunk_mem (List.mem_of_mem_take hm)) hs) hy (fun i h => (hi i h).1) htake, foldl_push]
  simp
end Go.Proofs.YthflpbgloeimfaaGreatDoor.H
namespace Go.Proofs.YthflpbgloeimfaaGreatDoor.H
open Go.RowKit Go.Proofs.YthflpbgloeimfaaGreatDoorW.PrintWords
open Go.Proofs.YthflpbgloeimfaaGreatDoor.Q (S47 k47 rd_T47 z47 at_T47 S50 k50 rd_T50 z50 at_T50 S52 k52 rd_T52 at_T52 z52 S71 k71 rd_T71 at_T71)
set_option linter.unusedVariables false
set_option linter.unusedSimpArgs false
theorem trmS_chars_aux {hs : Int → Int → List UInt8} {ok : Int → Int → Bool} {p : UInt8 → Prop} (hh : ∀ k n, ok k n = true → ∀ x ∈ hs k n, p x) (h32 : p 32) (h40 : p 40) (h41 : p 41) (n : Nat) : ∀ t : S50, tN t ≤ n → tAll ok t = true → ∀ x ∈ trmS hs t, p x := by
  induction n with
  | zero => intro t h; have := tN_pos t; omega
  | succ n ih =>
    intro t h hok
    obtain ⟨k, m, l⟩ := t
    rw [tN] at h
    rw [tAll, Bool.and_eq_true] at hok
    have : ∀ l : List S50, tNL l ≤ n → tAllL ok l = true → ∀ x ∈ trmSL hs l, p x := by
      intro l
      induction l with
      | nil => intro _ _ x hx; simp [trmSL] at hx
      | cons a r ihr =>
        intro h hok x hx
        rw [tNL] at h
        rw [tAllL, Bool.and_eq_true] at hok
        have h1 := ih a (by omega) hok.1
        have h2 := ihr (by omega) hok.2
        rw [trmSL, List.mem_cons, List.mem_append] at hx
        rcases hx with rfl | hx | hx
        · exact h32
        · unfold wrapT at hx
          split at hx
          · exact h1 x hx
          · simp only [List.mem_cons, List.mem_append, List.mem_nil_iff, or_false] at hx
            rcases hx with rfl | hx | rfl
            · exact h40
            · exact h1 x hx
            · exact h41
        · exact h2 x hx
    intro x hx
    rw [trmS, List.mem_append] at hx
    rcases hx with hx | hx
    · exact hh k m hok.1 x hx
    · exact this l (by omega) hok.2 x hx
theorem trmS_10 {a b : List ByteArray} {t : S50} (h : tAll (hsOk a b) t = true) : (10 : UInt8) ∉ trmS (hsN a b) t := fun hm =>
  trmS_chars_aux (p := fun x => x ≠ 10) (fun k n h x hx => (hs_plain h x hx).2.2.2) (by decide) (by decide) (by decide) _ t (Nat.le_refl _) h 10 hm rfl
def funN (a b : List ByteArray) (f : S52) : List UInt8 := funB ⟨f.f0, f.f1, ⟨(trmS (hsN a b) f.f2).toArray⟩⟩
def putN (sy : List S71) (F : List S52) : List UInt8 := (sy.map symB ++ F.map (funN (sy.map (·.f0)) (F.map (·.f0)))).flatMap endL
structure Txt (sy : List S71) (F : List S52) : Prop where
  so : ∀ y ∈ sy, yok y = true
  nm : ∀ f ∈ F, nameB f.f0 = true
  bd : ∀ f ∈ F, tAll (hsOk (sy.map (·.f0)) (F.map (·.f0))) f.f2 = true
def rawF (f : S52) : S52 := ⟨f.f0, rawS f.f1, f.f2⟩
def largeF (F : List S52) : Bool := F.any fun f => decide (schkV f.f1 ≠ 0)
theorem tmR_whole {a b : List ByteArray} {l : List UInt8} {t : S50} : tmR (nmE a) (nmE b) l = some (t, []) ↔ tAll (hsOk a b) t = true ∧ l = trmS (hsN a b) t := by
  rw [tmR_tmRG]
  constructor
  · intro h
    obtain ⟨e, hok, _⟩ := tmRG_sound (hdR_G a b) h
    rw [List.append_nil] at e
    exact ⟨hok, e⟩
  · rintro ⟨hok, rfl⟩
    have := tmRG_full (hdR_G a b) hok (r := []) rfl (.inl rfl)
    rwa [List.append_nil] at this
theorem boAll_sound {a b : List ByteArray} : ∀ (its : List It) (fs : List S52), boAll (nmE a) (nmE b) (its.map (fun i => ⟨i.nm, rawS i.s, ⟨0, 0, []⟩⟩)) (its.map (·.b)) = some fs →
    ∃ F : List S52, F.map (fun f => (⟨f.f0, f.f1, ⟨(trmS (hsN a b) f.f2).toArray⟩⟩ : It)) = its ∧ (∀ f ∈ F, tAll (hsOk a b) f.f2 = true) ∧ fs = F.map rawF := by
  intro its
  induction its with
  | nil =>
    intro fs h
    have : fs = [] := by simpa [boAll] using h.symm
    exact ⟨[], rfl, by simp, this⟩
  | cons i r ih =>
    intro fs h
    rw [List.map_cons, List.map_cons, boAll] at h
    obtain ⟨⟨t, u⟩, h1, h⟩ := Option.bind_eq_some_iff.1 h
    simp only at h
    split at h
    · rename_i hu
      subst hu
      obtain ⟨fs2, h2, rfl⟩ := Option.map_eq_some_iff.1 h
      obtain ⟨F, k1, k2, rfl⟩ := ih _ h2
      obtain ⟨hok, e⟩ := tmR_whole.1 h1
      refine ⟨⟨i.nm, i.s, t⟩ :: F, ?_, ?_, rfl⟩
      · rw [List.map_cons, k1]
        congr 1
        rw [← e, ba_list]
      · intro f hf
        rcases List.mem_cons.1 hf with rfl | hf
        · exact hok
        · exact k2 f hf
    · cases h
theorem boAll_full {a b : List ByteArray} : ∀ (F : List S52), (∀ f ∈ F, tAll (hsOk a b) f.f2 = true) →
    boAll (nmE a) (nmE b) (F.map (fun f => ⟨f.f0, rawS f.f1, ⟨0, 0, []⟩⟩)) (F.map (fun f => (⟨(trmS (hsN a b) f.f2).toArray⟩ : ByteArray))) = some (F.map rawF) := by
  intro F
  induction F with
  | nil => intro _; rfl
  | cons f r ih =>
    intro h
    rw [List.map_cons, List.map_cons, boAll, show (ByteArray.mk (trmS (hsN a b) f.f2).toArray).data.toList = trmS (hsN a b) f.f2 from rfl, tmR_whole.2 ⟨h f (List.mem_cons_self ..), rfl⟩]
    simp only [Option.bind_some, if_true]
    rw [ih (fun g hg => h g (List.mem_cons_of_mem _ hg))]
    rfl
theorem getV3_eq (t : ByteArray) : getV3 t = (getL t).bind fun g => (boAll (nmE (g.sy.map (·.f0))) (nmE (g.fs.map (·.f0))) g.fs g.bo).map fun fs => (g.sy, fs, g.large) := by
  unfold getV3 getL
  simp only
  split <;> rfl
theorem getV3_iff {t : ByteArray} (hs : t.size ≤ 65536) {sy : List S71} {fs : List S52} {large : Bool} :
    getV3 t = some (sy, fs, large) ↔ ∃ F, Txt sy F ∧ t.data.toList = putN sy F ∧ fs = F.map rawF ∧ large = largeF F := by
  rw [getV3_eq]
  constructor
  · intro h
    obtain ⟨g, h1, h⟩ := Option.bind_eq_some_iff.1 h
    obtain ⟨sy2, its, k1, k2, k3, rfl⟩ := getL_sound hs h1
    simp only [List.map_map] at h
    obtain ⟨fs2, h2, h⟩ := Option.map_eq_some_iff.1 h
    simp only [Prod.mk.injEq] at h
    obtain ⟨rfl, rfl, rfl⟩ := h
    obtain ⟨F, j1, j2, rfl⟩ := boAll_sound its fs2 h2
    have hnames : its.map ((fun x => x.f0) ∘ fun i => (⟨i.nm, rawS i.s, ⟨0, 0, []⟩⟩ : S52)) = F.map (·.f0) := by
      conv => lhs; rw [← j1]
      rw [List.map_map]; rfl
    rw [hnames] at j1 j2
    refine ⟨F, ⟨k1, fun f hf => ?_, j2⟩, ?_, rfl, ?_⟩
    · have : (⟨f.f0, f.f1, ⟨(trmS (hsN (sy2.map (·.f0)) (F.map (·.f0))) f.f2).toArray⟩⟩ : It) ∈ its := by rw [← j1]; exact List.mem_map.2 ⟨f, hf, rfl⟩
      exact (k2 _ this).1
    · rw [k3]
      conv => lhs; rw [← j1]
      unfold TX putN
      rw [List.map_map]; rfl
    · conv => lhs; rw [← j1]
      unfold largeF
      rw [List.any_map]; rfl
  · rintro ⟨F, hT, ht, rfl, rfl⟩
    have hf := getL_full hs (sy := sy) (its := F.map (fun f => (⟨f.f0, f.f1, ⟨(trmS (hsN (sy.map (·.f0)) (F.map (·.f0))) f.f2).toArray⟩⟩ : It))) hT.so (fun i hi => by
      obtain ⟨f, hf, rfl⟩ := List.mem_map.1 hi
      exact ⟨hT.nm f hf, trmS_10 (hT.bd f hf)⟩) (by rw [ht]; unfold TX putN; rw [List.map_map]; rfl)
    rw [hf]
    simp only [Option.bind_some, List.map_map]
    have e1 : F.map ((fun x => x.f0) ∘ (fun i => (⟨i.nm, rawS i.s, ⟨0, 0, []⟩⟩ : S52)) ∘ fun f => (⟨f.f0, f.f1, ⟨(trmS (hsN (sy.map (·.f0)) (F.map (·.f0))) f.f2).toArray⟩⟩ : It)) = F.map (·.f0) := rfl
    have e2 : F.map ((fun i => (⟨i.nm, rawS i.s, ⟨0, 0, []⟩⟩ : S52)) ∘ fun f => (⟨f.f0, f.f1, ⟨(trmS (hsN (sy.map (·.f0)) (F.map (·.f0))) f.f2).toArray⟩⟩ : It)) = F.map (fun f => ⟨f.f0, rawS f.f1, ⟨0, 0, []⟩⟩) := rfl
    have e3 : F.map ((fun x => x.b) ∘ fun f => (⟨f.f0, f.f1, ⟨(trmS (hsN (sy.map (·.f0)) (F.map (·.f0))) f.f2).toArray⟩⟩ : It)) = F.map (fun f => (⟨(trmS (hsN (sy.map (·.f0)) (F.map (·.f0))) f.f2).toArray⟩ : ByteArray)) := rfl
    rw [e1, e2, e3, boAll_full F hT.bd]
    simp only [Option.map_some, List.any_map]
    rfl
theorem rawS_good {s : S47} (h : schkV s = 0) : rawS s = s := by unfold rawS; rw [if_pos h]
theorem schB_srt {sy : List S71} {F : List S52} (h : schB sy F = true) : ∀ f ∈ F, schkV f.f1 = 0 := by
  obtain ⟨_, _, h5, _, _⟩ := schB_parts h
  intro f hf
  unfold schkV
  rw [headOk_srt (h5 f hf)]; rfl
theorem large_raw {F : List S52} (h : largeF F = false) : F.map rawF = F := by
  unfold largeF at h
  have h2 : ∀ f ∈ F, rawF f = f := by
    intro f hf
    have h3 := List.any_eq_false.1 h f hf
    simp only [decide_eq_true_eq, ne_eq, Decidable.not_not] at h3
    unfold rawF
    rw [rawS_good h3]
  conv => rhs; rw [← List.map_id F]
  exact List.map_congr_left h2
theorem schB_large {sy : List S71} {F : List S52} (h : schB sy F = true) : largeF F = false := by
  unfold largeF
  rw [List.any_eq_false]
  intro f hf
  simp [schB_srt h f hf]
end Go.Proofs.YthflpbgloeimfaaGreatDoor.H
namespace Go.Proofs.YthflpbgloeimfaaGreatDoor.H
open Go.RowKit Go.Proofs.YthflpbgloeimfaaGreatDoorW.PrintWords
open Go.Proofs.YthflpbgloeimfaaGreatDoor.Q (S47 k47 rd_T47 z47 at_T47 S50 k50 rd_T50 z50 at_T50 S52 k52 rd_T52 at_T52 z52 S71 k71 rd_T71 at_T71)
set_option linter.unusedVariables false
set_option linter.unusedSimpArgs false
theorem yok_names {sy : List S71} (k1 : ∀ y ∈ sy, yok y = true) : ∀ x ∈ sy.map (·.f0), nameB x = true := by
  intro x hx
  obtain ⟨y, hy, rfl⟩ := List.mem_map.1 hx
  have := k1 y hy
  unfold yok at this
  simp only [Bool.and_eq_true] at this
  exact this.1.1
end Go.Proofs.YthflpbgloeimfaaGreatDoor.H
namespace Go.Proofs.YthflpbgloeimfaaGreatDoor.H
open Go.RowKit Go.Proofs.YthflpbgloeimfaaGreatDoorW.PrintWords
open Go.Proofs.YthflpbgloeimfaaGreatDoor.Q (S47 k47 rd_T47 z47 at_T47 S50 k50 rd_T50 z50 at_T50 S52 k52 rd_T52 at_T52 z52 S71 k71 rd_T71 at_T71)
set_option linter.unusedVariables false
set_option linter.unusedSimpArgs false
theorem getD_map {α β : Type} (f : α → β) (l : List α) (n : Nat) (d : α) (e : β) (h : f d = e) : (l.map f).getD n e = f (l.getD n d) := by
  rw [List.getD_eq_getElem?_getD, List.getD_eq_getElem?_getD, List.getElem?_map]
  cases l[n]? with
  | none => simp [h]
  | some x => rfl
theorem hdS_hsN (sy : List S71) (fs : List S52) : hdS sy fs = hsN (sy.map (·.f0)) (fs.map (·.f0)) := by
  funext k n
  unfold hdS hsN
  rw [getD_map (fun f : S52 => f.f0) fs n.toNat z52 ByteArray.empty rfl, getD_map (fun y : S71 => y.f0) sy n.toNat ⟨ByteArray.empty, 0⟩ ByteArray.empty rfl]
  rfl
theorem putL_putN (sy : List S71) (fs : List S52) : putL sy fs = putN sy fs := by
  have e1 : symL = fun y => endL (symB y) := by
    funext x
    unfold symL symB endL pSym
    simp
  have e2 : funL sy fs = fun f => endL (funN (sy.map (·.f0)) (fs.map (·.f0)) f) := by
    funext f
    unfold funL funN funB endL pFun
    rw [hdS_hsN]
    simp
  unfold putL putN
  rw [e1, e2, List.flatMap_append, List.flatMap_map, List.flatMap_map]
theorem getR3_good {t : ByteArray} {sy : List S71} {fs : List S52} (h : getR3 t = (0, sy, fs)) : t.size ≤ 65536 ∧ Txt sy fs ∧ t.data.toList = putN sy fs ∧ schB sy fs = true := by
  unfold getR3 at h
  by_cases hs : 65536 < t.size
  · rw [if_pos hs] at h
    simp at h
  · rw [if_neg hs] at h
    cases hv : getV3 t with
    | none => rw [hv] at h; simp at h
    | some p =>
      obtain ⟨sy2, fs2, large⟩ := p
      rw [hv] at h
      simp only at h
      split at h
      · simp at h
      · rename_i hn
        simp only [Prod.mk.injEq, true_and] at h
        obtain ⟨rfl, rfl⟩ := h
        obtain ⟨F, hT, ht, rfl, rfl⟩ := (getV3_iff (by omega)).1 hv
        have hl : largeF F = false := by
          cases e : largeF F with
          | false => rfl
          | true => exact absurd (.inl e) hn
        rw [large_raw hl] at hn ⊢
        refine ⟨by omega, hT, ht, ?_⟩
        cases e : schB sy2 F with
        | true => rfl
        | false => exact absurd (.inr (by rw [schV_bad e]; decide)) hn
theorem getR3_none {t : ByteArray} (h : (getR3 t).1 ≠ 0) : (getR3 t).2.1 = [] ∧ (getR3 t).2.2 = [] := by
  unfold getR3 at h ⊢
  split
  · exact ⟨rfl, rfl⟩
  · rename_i hs
    rw [if_neg hs] at h
    cases hv : getV3 t with
    | none => exact ⟨rfl, rfl⟩
    | some p =>
      obtain ⟨sy2, fs2, large⟩ := p
      rw [hv] at h
      simp only at h ⊢
      split
      · exact ⟨rfl, rfl⟩
      · rename_i hn
        rw [if_neg hn] at h
        exact absurd rfl h
theorem texts_plain {t : ByteArray} {sy : List S71} {fs : List S52} (h : getR3 t = (0, sy, fs)) : putV sy fs = (t.data.toList, 0) := by
  obtain ⟨h1, h2, h3, h4⟩ := getR3_good h
  unfold putV
  rw [h4, putL_putN, ← h3, if_pos rfl, if_neg (by rw [← Lib.size_eq]; omega)]
theorem idxOf_nodup {l : List ByteArray} (h : l.Nodup) {n : Nat} (hn : n < l.length) : l.idxOf (l.getD n ByteArray.empty) = n := by
  rw [List.getD_eq_getElem?_getD, List.getElem?_eq_getElem hn]
  exact List.Nodup.idxOf_getElem h n hn
theorem okAt_nodup {l : List ByteArray} (h : l.Nodup) (hb : ∀ x ∈ l, nameB x = true) {n : Int} (h0 : 0 ≤ n) (hn : n < (l.length : Int)) : okAt l n = true := by
  have h1 : n.toNat < l.length := by omega
  unfold okAt
  rw [decide_eq_true h0, decide_eq_true h1, decide_eq_true (idxOf_nodup h h1), hb _ (by rw [List.getD_eq_getElem?_getD, List.getElem?_eq_getElem h1]; exact List.getElem_mem h1)]
  rfl
theorem tIn_all {a b : List ByteArray} {np : Nat} (ha : a.Nodup) (hb : b.Nodup) (hna : ∀ x ∈ a, nameB x = true) (hnb : ∀ x ∈ b, nameB x = true) (hp : np ≤ 1000) (N : Nat) : ∀ t : S50, tN t ≤ N → tIn a.length b.length np t → tAll (hsOk a b) t = true := by
  induction N with
  | zero => intro t h; have := tN_pos t; omega
  | succ N ih =>
    intro t h hin
    obtain ⟨k, n, l⟩ := t
    rw [tN] at h
    rw [tIn] at hin
    have hl : ∀ l : List S50, tNL l ≤ N → tInL a.length b.length np l → tAllL (hsOk a b) l = true := by
      intro l
      induction l with
      | nil => intro _ _; rfl
      | cons x r ihr =>
        intro h hin
        rw [tNL] at h
        rw [tInL] at hin
        rw [tAllL, ih x (by omega) hin.1, ihr (by omega) hin.2]; rfl
    rw [tAll, hl l (by omega) hin.2, Bool.and_true]
    unfold hsOk
    rcases hin.1 with ⟨rfl, h0, h1⟩ | ⟨rfl, h0, h1⟩ | ⟨rfl, h0, h1⟩
    · rw [if_pos rfl, decide_eq_true h0, decide_eq_true (by omega)]; rfl
    · rw [if_neg (by decide), if_pos rfl]; exact okAt_nodup hb hnb h0 h1
    · rw [if_neg (by decide), if_neg (by decide), if_pos rfl]; exact okAt_nodup ha hna h0 h1
theorem schB_txt {sy : List S71} {fs : List S52} (h : schB sy fs = true) : Txt sy fs := by
  obtain ⟨⟨h1, h2, h3⟩, h4, h5, h6, h7⟩ := schB_parts h
  have hok := scOk h
  have hsy : ∀ y ∈ sy, yok y = true := by
    intro y hy
    have h8 := (symsB_len h1).2 y hy
    unfold symOk at h8
    simp only [Bool.and_eq_true, decide_eq_true_eq] at h8
    unfold yok
    rw [h8.1.1, decide_eq_true h8.1.2, decide_eq_true (show y.f1 ≤ 1000000000 by omega)]; rfl
  have hfn : ∀ f ∈ fs, nameB f.f0 = true := by
    intro f hf
    have h8 := h5 f hf
    unfold headOk at h8
    rw [Bool.and_eq_true] at h8
    exact h8.1
  have hsn : (sy.map (·.f0)).Nodup := by
    unfold symsB at h1
    simp only [Bool.and_eq_true, decide_eq_true_eq] at h1
    exact h1.1.2
  refine ⟨hsy, hfn, fun f hf => ?_⟩
  have hb := hok.bod f hf
  refine tIn_all hsn h6 (yok_names hsy) (fun x hx => ?_) (np := f.f1.f0.length) (by have := (hok.srt f hf).2; omega) _ f.f2 (Nat.le_refl _) (by rw [List.length_map, List.length_map]; exact hb.2)
  obtain ⟨g, hg, rfl⟩ := List.mem_map.1 hx
  exact hfn g hg
theorem round_plain {sy : List S71} {fs : List S52} (h : schB sy fs = true) (hs : (putL sy fs).length ≤ 65536) : getR3 ⟨(putL sy fs).toArray⟩ = (0, sy, fs) := by
  have hsz : (ByteArray.mk (putL sy fs).toArray).size ≤ 65536 := by rw [arr_size]; exact hs
  have hv := (getV3_iff hsz).2 ⟨fs, schB_txt h, by rw [← putL_putN], rfl, rfl⟩
  unfold getR3
  rw [if_neg (by omega), hv]
  simp only
  rw [schB_large h, large_raw (schB_large h), if_neg (by rw [schV_good h]; simp)]
end Go.Proofs.YthflpbgloeimfaaGreatDoor.H
namespace Go.Proofs.YthflpbgloeimfaaGreatDoor.H
open Go.RowKit Go.Proofs.YthflpbgloeimfaaGreatDoorW.PrintWords Go.Proofs.YthflpbgloeimfaaGreatDoorW.PrintLast Go.Proofs.YthflpbgloeimfaaGreatDoorW.PrintMore
open Go.Proofs.YthflpbgloeimfaaGreatDoor.Q (S47 k47 rd_T47 z47 at_T47 S50 k50 rd_T50 z50 at_T50 S52 k52 rd_T52 at_T52 z52 S71 k71 rd_T71 at_T71)
set_option linter.unusedVariables false
set_option linter.unusedSimpArgs false
set_option maxHeartbeats 16000000 in
set_option maxRecDepth 100000 in
theorem schemeTexts_calls (s : ByteArray) (w : World) (hm : MX w) : Calls Tryz.prog 7 #[.string s] w fun E w' => E = .returned (.bool true) ∧ Below w.heap.size w w' := by
  have HG := Aside0.mk (get3_calls s w hm)
  have HM := Aside0.mk hm
  unfold GetE3 at HG
  have HNO := Aside0.mk (getR3_none (t := s))
  have HYES := Aside0.mk (fun sy fs h => texts_plain (t := s) (sy := sy) (fs := fs) h)
  generalize getR3 s = R at *
  obtain ⟨e, sy, fs⟩ := R
  clear hm
  go_enter Tryz.func7, Tryz.ntmps7
  go_wp2_with fail
  refine (HG.out).mono ?_
  rintro E w1 ⟨A1, c1, A2, c2, rfl, h1, l1, h2, l2, hb⟩
  have hba := below_alloc (Below.refl w1.heap.size w1) (.cells #[.slice A1 sy.length c1, .slice A2 fs.length c2] 25)
  have HB2 := Aside0.mk (below_then hb hb.size hba)
  have HX2 := Aside0.mk (blk_new w1 (.cells #[.slice A1 sy.length c1, .slice A2 fs.length c2] 25))
  have HS2 := Aside0.mk (Kd.C_below h1 hba)
  have HF2 := Aside0.mk (Kd.C_below h2 hba)
  clear h1 h2 hb hba HG l1 l2
  go_upto_region 2 with (fail)
  generalize w1.alloc (.cells #[.slice A1 sy.length c1, .slice A2 fs.length c2] 25) = w2 at *
  generalize w1.heap.size = b1 at *
  have k0 : w2.cell? ⟨b1, 0, none⟩ = some (.slice A1 sy.length c1) := (blk_cell HX2.out 0).trans rfl
  have k1 : w2.cell? ⟨b1, 1, none⟩ = some (.slice A2 fs.length c2) := (blk_cell HX2.out 1).trans rfl
  by_cases he : e = 0
  · subst he
    have HPV := Aside0.mk (HYES.out sy fs rfl)
    have HP := Aside0.mk (put_calls sy fs A1 A2 c1 c2 w2 HS2.out HF2.out)
    unfold PutE at HP
    rw [HPV.out] at HP
    have HSE := Aside0.mk (show (ByteArray.mk s.data.toList.toArray) = s from rfl)
    rw [HSE.out] at HP
    go_wp2_with fail
    refine (HP.out).mono ?_
    rintro E w3 ⟨rfl, hb⟩
    have HB3 := Aside0.mk (below_then HB2.out (HB2.out).size hb)
    have HAL := Aside0.mk (alive_calls w3 ((HM.out).below HB3.out))
    clear hb k0 k1 HP
    go_wp2_with fail
    refine (HAL.out).mono ?_
    rintro E w4 ⟨rfl, hb⟩
    have HB4 := Aside0.mk (below_then HB3.out (HB3.out).size hb)
    clear hb
    go_wp2
    go_ret
    exact ⟨rfl, HB4.out⟩
  · obtain ⟨rfl, rfl⟩ := HNO.out he
    have hez : (e != 0) = true := by simpa using he
    have HAL := Aside0.mk (alive_calls w2 ((HM.out).below HB2.out))
    go_wp2_with fail
    refine (HAL.out).mono ?_
    rintro E w4 ⟨rfl, hb⟩
    have HB4 := Aside0.mk (below_then HB2.out (HB2.out).size hb)
    clear hb
    go_wp2
    go_ret
    exact ⟨rfl, HB4.out⟩
end Go.Proofs.YthflpbgloeimfaaGreatDoor.H
namespace Go.Proofs.YthflpbgloeimfaaGreatDoor.H
open Go.RowKit Go.Proofs.YthflpbgloeimfaaGreatDoorW.PrintWords Go.Proofs.YthflpbgloeimfaaGreatDoorW.PrintLast Go.Proofs.YthflpbgloeimfaaGreatDoorW.PrintMore
open Go.Proofs.YthflpbgloeimfaaGreatDoor.Q (S47 k47 rd_T47 z47 at_T47 S50 k50 rd_T50 z50 at_T50 S52 k52 rd_T52 at_T52 z52 S71 k71 rd_T71 at_T71)
set_option linter.unusedVariables false
set_option linter.unusedSimpArgs false
theorem rtequal_calls (a b : S50) (A : Option Addr) (c : Nat) (B : Option Addr) (d : Nat) (w : World) (ha : Kd.C k50 w A a.f2.length a.f2) (hac : a.f2.length ≤ c) (hb : Kd.C k50 w B b.f2.length b.f2) (hbc : b.f2.length ≤ d) (hn : tN a ≤ 1000000) :
    Calls Tryz.prog 87 #[.agg #[.int .i64 a.f0, .int .i64 a.f1, .slice A a.f2.length c], .agg #[.int .i64 b.f0, .int .i64 b.f1, .slice B b.f2.length d]] w fun E w' => E = .returned (.bool (tE a b)) ∧ Below w.heap.size w w' := by
  obtain ⟨k, hk⟩ := (tequal_ev 1000000 a b hn (by omega)).rounds
  exact Q.virgationref02_Equal.calls k a.f0 a.f1 A c a.f2 b.f0 b.f1 B d b.f2 (tE a b) w ha hac hb hbc hk
structure BX (w W : World) (s1 s2 t1 t2 : Value) : Prop where
  hb : Below w.heap.size w W
  a : W.heap[w.heap.size]? = some (.cells #[s1, s2] 25 (0, 0))
  b : W.heap[w.heap.size + 1]? = some (.cells #[t1, t2] 25 (0, 0))
theorem BX.start (w : World) (s1 s2 t1 t2 : Value) : BX w ((w.alloc (.cells #[s1, s2] 25)).alloc (.cells #[t1, t2] 25)) s1 s2 t1 t2 := ⟨below_alloc (below_alloc (Below.refl _ _) _) _, blk_alloc (blk_new w _) _, blk_at2 w _ _⟩
theorem BX.below {w W W1 : World} {s1 s2 t1 t2 : Value} (h : BX w W s1 s2 t1 t2) (hb : Below W.heap.size W W1) : BX w W1 s1 s2 t1 t2 := ⟨below_then h.hb h.hb.size hb, blk_below h.a hb, blk_below h.b hb⟩
theorem BX.cells {w W : World} {s1 s2 t1 t2 : Value} (h : BX w W s1 s2 t1 t2) : (W.cell? ⟨w.heap.size, 0, none⟩ = some s1 ∧ W.cell? ⟨w.heap.size, 1, none⟩ = some s2) ∧ W.cell? ⟨w.heap.size + 1, 0, none⟩ = some t1 ∧ W.cell? ⟨w.heap.size + 1, 1, none⟩ = some t2 :=
  ⟨⟨(blk_cell h.a 0).trans rfl, (blk_cell h.a 1).trans rfl⟩, (blk_cell h.b 0).trans rfl, (blk_cell h.b 1).trans rfl⟩
set_option maxHeartbeats 16000000 in
set_option maxRecDepth 100000 in
theorem requalS_calls (sy : List S71) (fs : List S52) (A1 A2 B1 B2 : Option Addr) (c1 c2 d1 d2 : Nat) (w : World) (hS : Kd.C k71 w A1 sy.length sy) (hF : Kd.C k52 w A2 fs.length fs) (hS2 : Kd.C k71 w B1 sy.length sy) (hF2 : Kd.C k52 w B2 fs.length fs)
    (hN : ∀ f ∈ fs, sN f.f1 ≤ 1000000 ∧ tN f.f2 ≤ 1000000) (hl1 : sy.length ≤ 1000000) (hl2 : fs.length ≤ 1000000) :
    Calls Tryz.prog 35 #[.agg #[.slice A1 sy.length c1, .slice A2 fs.length c2], .agg #[.slice B1 sy.length d1, .slice B2 fs.length d2]] w fun E w' => E = .returned (.bool true) ∧ Below w.heap.size w w' := by
  have HS := Aside0.mk hS
  have HF := Aside0.mk hF
  have HS2 := Aside0.mk hS2
  have HF2 := Aside0.mk hF2
  have HN := Aside0.mk hN
  have HL1 := Aside0.mk hl1
  have HL2 := Aside0.mk hl2
  have HB := Aside0.mk (BX.start w (.slice A1 sy.length c1) (.slice A2 fs.length c2) (.slice B1 sy.length d1) (.slice B2 fs.length d2))
  clear hS hF hS2 hF2 hN hl1 hl2
  go_enter Tryz.func35, Tryz.ntmps35
  go_upto_region 1 with (fail)
  generalize ((w.alloc (.cells #[.slice A1 sy.length c1, .slice A2 fs.length c2] 25)).alloc (.cells #[.slice B1 sy.length d1, .slice B2 fs.length d2] 25)) = W1 at *
  obtain ⟨⟨p0, p1⟩, q0, q1⟩ := (HB.out).cells
  go_wp2
  clear p0 p1 q0 q1
  go_loopg [26] sy.length (fun gg v26 wi => ∃ (j : Nat), j ≤ sy.length ∧ sy.length - j ≤ gg ∧ v26 = .int .i64 j ∧ Aside0 (BX w wi (.slice A1 sy.length c1) (.slice A2 fs.length c2) (.slice B1 sy.length d1) (.slice B2 fs.length d2)))
  case atStart => exact ⟨0, by omega, by omega, rfl, HB⟩
  case round =>
    clear HB
    obtain ⟨j, hj, hgg, rfl, HB⟩ := hrel
    by_cases hlt : j < sy.length
    · have hltz : (j : Int) < (sy.length : Int) := by omega
      have HLT := Aside0.mk hlt
      obtain ⟨ad, e, hx0, hx1⟩ := at_T71 HS.out (j : Int) (by omega) hltz
      subst e
      obtain ⟨bd, e, hy0, hy1⟩ := at_T71 HS2.out (j : Int) (by omega) hltz
      subst e
      rw [Int.toNat_natCast] at hx0 hx1 hy0 hy1
      replace hx0 := ((HB.out).hb.cell (World.block_lt_of_cell? w _ hx0)).trans hx0
      replace hx1 := ((HB.out).hb.cell (World.block_lt_of_cell? w _ hx1)).trans hx1
      replace hy0 := ((HB.out).hb.cell (World.block_lt_of_cell? w _ hy0)).trans hy0
      replace hy1 := ((HB.out).hb.cell (World.block_lt_of_cell? w _ hy1)).trans hy1
      have HKZ := Aside0.mk (show wrap64 ((j : Int) + 1) = ((j + 1 : Nat) : Int) by rw [wr_id (by omega) (by have := HL1.out; omega)]; rfl)
      generalize rd_T71 sy (j : Int) = u at *
      obtain ⟨⟨p0, p1⟩, q0, q1⟩ := (HB.out).cells
      have hnn : (0 : Int) ≤ (j : Int) := by omega
      go_upto_region 6 with (fail)
      go_quiet (fail)
      have HB2 := Aside0.mk ((HB.out).below (pw_below_drewN (Below.refl wr.heap.size wr) nq))
      clear p0 p1 q0 q1 hx0 hx1 hy0 hy1 HB
      generalize wr.drewN nq = w5 at *
      go_wp2
      go_roundg (sy.length - (j + 1))
      case measure => have := HLT.out; omega
      case rel => exact ⟨j + 1, HLT.out, Nat.le_refl _, by rw [HKZ.out], HB2⟩
    · have hltz : ¬ (j : Int) < (sy.length : Int) := by omega
      clear hlt hj hgg
      obtain ⟨⟨p0, p1⟩, q0, q1⟩ := (HB.out).cells
      go_wp2
      clear p0 p1 q0 q1 hltz
      go_loopg [44] fs.length (fun gg v44 wi => ∃ (j : Nat), j ≤ fs.length ∧ fs.length - j ≤ gg ∧ v44 = .int .i64 j ∧ Aside0 (BX w wi (.slice A1 sy.length c1) (.slice A2 fs.length c2) (.slice B1 sy.length d1) (.slice B2 fs.length d2)))
      case atStart => exact ⟨0, by omega, by omega, rfl, HB⟩
      case round =>
        clear HB
        obtain ⟨j, hj, hgg, rfl, HB⟩ := hrel
        by_cases hlt : j < fs.length
        · have hltz : (j : Int) < (fs.length : Int) := by omega
          have HLT := Aside0.mk hlt
          obtain ⟨ad, As, cs, At, ct, e, hx0, hx1, hx2, hx3, hx4, hls, hCs, hlt4, hCt⟩ := at_T52 HF.out (j : Int) (by omega) hltz
          subst e
          obtain ⟨bd, Bs, ds, Bt, dt, e, hy0, hy1, hy2, hy3, hy4, hms, hDs, hmt4, hDt⟩ := at_T52 HF2.out (j : Int) (by omega) hltz
          subst e
          rw [rdF_at hlt] at hx0 hx1 hx2 hx3 hx4 hls hCs hlt4 hCt hy0 hy1 hy2 hy3 hy4 hms hDs hmt4 hDt
          rw [Int.toNat_natCast] at hx0 hx1 hx2 hx3 hx4 hy0 hy1 hy2 hy3 hy4
          have HKZ := Aside0.mk (show wrap64 ((j : Int) + 1) = ((j + 1 : Nat) : Int) by rw [wr_id (by omega) (by have := HL2.out; omega)]; rfl)
          have HNN := Aside0.mk (HN.out _ (List.getElem_mem hlt))
          generalize fs[j] = f at *
          have HK := Aside0.mk (fun (W : World) (hW : Below wr.heap.size wr W) => (show ((W.cell? ⟨w.heap.size, 0, none⟩ = some (.slice A1 sy.length c1) ∧ W.cell? ⟨w.heap.size, 1, none⟩ = some (.slice (some ad) fs.length c2)) ∧ W.cell? ⟨w.heap.size + 1, 0, none⟩ = some (.slice B1 sy.length d1) ∧ W.cell? ⟨w.heap.size + 1, 1, none⟩ = some (.slice (some bd) fs.length d2)) ∧
              (W.cell? (ad.add (j * 5)) = some (.string f.f0) ∧ W.cell? ⟨(ad.add (j * 5)).block, (ad.add (j * 5)).off + 1, none⟩ = some (.slice As f.f1.f0.length cs) ∧ W.cell? ⟨(ad.add (j * 5)).block, (ad.add (j * 5)).off + 2, none⟩ = some (.int .i64 f.f2.f0) ∧ W.cell? ⟨(ad.add (j * 5)).block, (ad.add (j * 5)).off + 3, none⟩ = some (.int .i64 f.f2.f1) ∧ W.cell? ⟨(ad.add (j * 5)).block, (ad.add (j * 5)).off + 4, none⟩ = some (.slice At f.f2.f2.length ct)) ∧
              (W.cell? (bd.add (j * 5)) = some (.string f.f0) ∧ W.cell? ⟨(bd.add (j * 5)).block, (bd.add (j * 5)).off + 1, none⟩ = some (.slice Bs f.f1.f0.length ds) ∧ W.cell? ⟨(bd.add (j * 5)).block, (bd.add (j * 5)).off + 2, none⟩ = some (.int .i64 f.f2.f0) ∧ W.cell? ⟨(bd.add (j * 5)).block, (bd.add (j * 5)).off + 3, none⟩ = some (.int .i64 f.f2.f1) ∧ W.cell? ⟨(bd.add (j * 5)).block, (bd.add (j * 5)).off + 4, none⟩ = some (.slice Bt f.f2.f2.length dt)) from by
            have hB := ((HB.out).below hW)
            exact ⟨hB.cells, ⟨(hB.hb.cell (World.block_lt_of_cell? w _ hx0)).trans hx0, (hB.hb.cell (World.block_lt_of_cell? w _ hx1)).trans hx1, (hB.hb.cell (World.block_lt_of_cell? w _ hx2)).trans hx2, (hB.hb.cell (World.block_lt_of_cell? w _ hx3)).trans hx3, (hB.hb.cell (World.block_lt_of_cell? w _ hx4)).trans hx4⟩,
              (hB.hb.cell (World.block_lt_of_cell? w _ hy0)).trans hy0, (hB.hb.cell (World.block_lt_of_cell? w _ hy1)).trans hy1, (hB.hb.cell (World.block_lt_of_cell? w _ hy2)).trans hy2, (hB.hb.cell (World.block_lt_of_cell? w _ hy3)).trans hy3, (hB.hb.cell (World.block_lt_of_cell? w _ hy4)).trans hy4⟩))
          have HT1 := Aside0.mk (fun (W : World) (hW : Below wr.heap.size wr W) => requal_calls f.f1 f.f1 As cs Bs ds W (Kd.C_below hCs ((HB.out).below hW).hb) hls (Kd.C_below hDs ((HB.out).below hW).hb) hms (HNN.out).1)
          have HT2 := Aside0.mk (fun (W : World) (hW : Below wr.heap.size wr W) => rtequal_calls f.f2 f.f2 At ct Bt dt W (Kd.C_below hCt ((HB.out).below hW).hb) hlt4 (Kd.C_below hDt ((HB.out).below hW).hb) hmt4 (HNN.out).2)
          rw [sE_iff.2 rfl] at HT1
          rw [tE_iff.2 rfl] at HT2
          clear hx0 hx1 hx2 hx3 hx4 hls hCs hlt4 hCt hy0 hy1 hy2 hy3 hy4 hms hDs hmt4 hDt
          have hd := below_drew (Below.refl wr.heap.size wr)
          have hnn : (0 : Int) ≤ (j : Int) := by omega
          go_upto_region 12 with (fail)
          go_region_held3 (fun W => ((W.cell? ⟨w.heap.size, 0, none⟩ = some (.slice A1 sy.length c1) ∧ W.cell? ⟨w.heap.size, 1, none⟩ = some (.slice (some ad) fs.length c2)) ∧ W.cell? ⟨w.heap.size + 1, 0, none⟩ = some (.slice B1 sy.length d1) ∧ W.cell? ⟨w.heap.size + 1, 1, none⟩ = some (.slice (some bd) fs.length d2)) ∧
              (W.cell? (ad.add (j * 5)) = some (.string f.f0) ∧ W.cell? ⟨(ad.add (j * 5)).block, (ad.add (j * 5)).off + 1, none⟩ = some (.slice As f.f1.f0.length cs) ∧ W.cell? ⟨(ad.add (j * 5)).block, (ad.add (j * 5)).off + 2, none⟩ = some (.int .i64 f.f2.f0) ∧ W.cell? ⟨(ad.add (j * 5)).block, (ad.add (j * 5)).off + 3, none⟩ = some (.int .i64 f.f2.f1) ∧ W.cell? ⟨(ad.add (j * 5)).block, (ad.add (j * 5)).off + 4, none⟩ = some (.slice At f.f2.f2.length ct)) ∧
              (W.cell? (bd.add (j * 5)) = some (.string f.f0) ∧ W.cell? ⟨(bd.add (j * 5)).block, (bd.add (j * 5)).off + 1, none⟩ = some (.slice Bs f.f1.f0.length ds) ∧ W.cell? ⟨(bd.add (j * 5)).block, (bd.add (j * 5)).off + 2, none⟩ = some (.int .i64 f.f2.f0) ∧ W.cell? ⟨(bd.add (j * 5)).block, (bd.add (j * 5)).off + 3, none⟩ = some (.int .i64 f.f2.f1) ∧ W.cell? ⟨(bd.add (j * 5)).block, (bd.add (j * 5)).off + 4, none⟩ = some (.slice Bt f.f2.f2.length dt)))
            (first | exact HK.out _ hd | exact HK.out _ hd1 | exact HK.out _ hd2 | fail)
            (first
              | (go_at_call 86; with_reducible refine (HT1.out _ hd).mono ?_; rintro E wp ⟨rfl, hbp⟩; have hd1 := below_then hd hd.size hbp; clear hbp hd)
              | (go_at_call 87; with_reducible refine (HT2.out _ hd1).mono ?_; rintro E wo ⟨rfl, hbo⟩; have hd2 := below_then hd1 hd1.size hbo; clear hbo hd1)
              | fail)
          all_goals
            have HB3 := Aside0.mk ((HB.out).below hd2)
            clear hd2 HB HK HT1 HT2
            go_wp2
            go_roundg (fs.length - (j + 1))
            case measure => have := HLT.out; omega
            case rel => exact ⟨j + 1, HLT.out, Nat.le_refl _, by rw [HKZ.out], HB3⟩
        · have hltz : ¬ (j : Int) < (fs.length : Int) := by omega
          go_wp2
          go_ret
          exact ⟨rfl, (HB.out).hb⟩
end Go.Proofs.YthflpbgloeimfaaGreatDoor.H
namespace Go.Proofs.YthflpbgloeimfaaGreatDoor.H
open Go.RowKit Go.Proofs.YthflpbgloeimfaaGreatDoorW.PrintWords Go.Proofs.YthflpbgloeimfaaGreatDoorW.PrintLast Go.Proofs.YthflpbgloeimfaaGreatDoorW.PrintMore
open Go.Proofs.YthflpbgloeimfaaGreatDoor.Q (S47 k47 rd_T47 z47 at_T47 S50 k50 rd_T50 z50 at_T50 S52 k52 rd_T52 at_T52 z52 S71 k71 rd_T71 at_T71)
set_option linter.unusedVariables false
set_option linter.unusedSimpArgs false
theorem schB_small {sy : List S71} {fs : List S52} (h : schB sy fs = true) : (∀ f ∈ fs, sN f.f1 ≤ 1000000 ∧ tN f.f2 ≤ 1000000) ∧ sy.length ≤ 1000000 ∧ fs.length ≤ 1000000 := by
  have hok := scOk h
  refine ⟨fun f hf => ⟨?_, ?_⟩, ?_, ?_⟩
  · have := srtB_N (hok.srt f hf).1; omega
  · have := (hok.bod f hf).1; omega
  · have := hok.ny; omega
  · have := hok.nf; omega
set_option maxHeartbeats 16000000 in
set_option maxRecDepth 100000 in
theorem rsameS_calls (sy : List S71) (fs : List S52) (A1 A2 B1 B2 : Option Addr) (c1 c2 d1 d2 : Nat) (w : World) (hS : Kd.C k71 w A1 sy.length sy) (hF : Kd.C k52 w A2 fs.length fs) (hS2 : Kd.C k71 w B1 sy.length sy) (hF2 : Kd.C k52 w B2 fs.length fs)
    (hc1 : sy.length ≤ c1) (hc2 : fs.length ≤ c2) (hd1 : sy.length ≤ d1) (hd2 : fs.length ≤ d2) (hv : schB sy fs = true) :
    Calls Tryz.prog 23 #[.agg #[.slice A1 sy.length c1, .slice A2 fs.length c2], .agg #[.slice B1 sy.length d1, .slice B2 fs.length d2]] w fun E w' => E = .returned (.bool true) ∧ Below w.heap.size w w' := by
  have H1 := Aside0.mk fun W (hW : Below w.heap.size w W) => risch_calls sy fs A1 A2 c1 c2 W (Kd.C_below hS hW) (Kd.C_below hF hW) hc1 hc2
  have H2 := Aside0.mk fun W (hW : Below w.heap.size w W) => risch_calls sy fs B1 B2 d1 d2 W (Kd.C_below hS2 hW) (Kd.C_below hF2 hW) hd1 hd2
  have H3 := Aside0.mk fun W (hW : Below w.heap.size w W) => requalS_calls sy fs A1 A2 B1 B2 c1 c2 d1 d2 W (Kd.C_below hS hW) (Kd.C_below hF hW) (Kd.C_below hS2 hW) (Kd.C_below hF2 hW) (schB_small hv).1 (schB_small hv).2.1 (schB_small hv).2.2
  rw [hv] at H1 H2
  have HB := Aside0.mk (BX.start w (.slice A1 sy.length c1) (.slice A2 fs.length c2) (.slice B1 sy.length d1) (.slice B2 fs.length d2))
  clear hS hF hS2 hF2 hc1 hc2 hd1 hd2 hv
  go_enter Tryz.func23, Tryz.ntmps23
  go_upto_region 1 with (fail)
  generalize ((w.alloc (.cells #[.slice A1 sy.length c1, .slice A2 fs.length c2] 25)).alloc (.cells #[.slice B1 sy.length d1, .slice B2 fs.length d2] 25)) = W1 at *
  obtain ⟨⟨p0, p1⟩, q0, q1⟩ := (HB.out).cells
  go_wp2_with fail
  refine (H1.out _ (HB.out).hb).mono ?_
  rintro E W2 ⟨rfl, hb⟩
  have HB2 := Aside0.mk ((HB.out).below hb)
  clear hb p0 p1 q0 q1 HB H1
  obtain ⟨⟨p0, p1⟩, q0, q1⟩ := (HB2.out).cells
  go_wp2_with fail
  refine (H2.out _ (HB2.out).hb).mono ?_
  rintro E W3 ⟨rfl, hb⟩
  have HB3 := Aside0.mk ((HB2.out).below hb)
  clear hb p0 p1 q0 q1 HB2 H2
  obtain ⟨⟨p0, p1⟩, q0, q1⟩ := (HB3.out).cells
  go_wp2_with fail
  refine (H3.out _ (HB3.out).hb).mono ?_
  rintro E W4 ⟨rfl, hb⟩
  have HB4 := Aside0.mk ((HB3.out).below hb)
  clear hb p0 p1 q0 q1 HB3 H3
  go_wp2
  go_ret
  exact ⟨rfl, (HB4.out).hb⟩
set_option maxHeartbeats 16000000 in
set_option maxRecDepth 100000 in
theorem schemeRound_calls (sy : List S71) (fs : List S52) (A1 A2 : Option Addr) (c1 c2 : Nat) (w : World) (hS : Kd.C k71 w A1 sy.length sy) (hF : Kd.C k52 w A2 fs.length fs) (hc1 : sy.length ≤ c1) (hc2 : fs.length ≤ c2) (hm : MX w) :
    Calls Tryz.prog 6 #[.agg #[.slice A1 sy.length c1, .slice A2 fs.length c2]] w fun E w' => E = .returned (.bool true) ∧ Below w.heap.size w w' := by
  have H1 := Aside0.mk fun W (hW : Below w.heap.size w W) => risch_calls sy fs A1 A2 c1 c2 W (Kd.C_below hS hW) (Kd.C_below hF hW) hc1 hc2
  have HP := Aside0.mk fun W (hW : Below w.heap.size w W) => put_calls sy fs A1 A2 c1 c2 W (Kd.C_below hS hW) (Kd.C_below hF hW)
  have HG := Aside0.mk fun (t : ByteArray) W (hW : Below w.heap.size w W) => get3_calls t W (hm.below hW)
  have HSA := Aside0.mk fun (hv : schB sy fs = true) B1 B2 d1 d2 W (hW : Below w.heap.size w W) h1 h2 g1 g2 => rsameS_calls sy fs B1 B2 A1 A2 d1 d2 c1 c2 W h1 h2 (Kd.C_below hS hW) (Kd.C_below hF hW) g1 g2 hc1 hc2 hv
  have HAL := Aside0.mk fun W (hW : Below w.heap.size w W) => alive_calls W (hm.below hW)
  have HS := Aside0.mk (CB.mk (below_alloc (Below.refl w.heap.size w) (.cells #[.slice A1 sy.length c1, .slice A2 fs.length c2] 25)) (blk_new w (.cells #[.slice A1 sy.length c1, .slice A2 fs.length c2] 25)))
  clear hS hF hc1 hc2 hm
  unfold PutE at HP
  unfold GetE3 at HG
  go_enter Tryz.func6, Tryz.ntmps6
  go_upto_region 1 with (fail)
  generalize w.alloc (.cells #[.slice A1 sy.length c1, .slice A2 fs.length c2] 25) = W1 at *
  obtain ⟨k0, k1⟩ := (HS.out).cells
  cases qv : schB sy fs with
  | false =>
    rw [qv] at H1
    clear qv
    go_wp2_with fail
    refine (H1.out _ (HS.out).hb).mono ?_
    rintro E W2 ⟨rfl, hb⟩
    have HS2 := Aside0.mk ((HS.out).below hb)
    clear hb HS k0 k1
    go_wp2_with fail
    refine (HAL.out _ (HS2.out).hb).mono ?_
    rintro E W3 ⟨rfl, hb⟩
    have HS3 := Aside0.mk ((HS2.out).below hb)
    clear hb HS2
    go_wp2
    go_ret
    exact ⟨rfl, (HS3.out).hb⟩
  | true =>
    rw [qv] at H1
    have HQV := Aside0.mk qv
    have HPV := Aside0.mk (show putV sy fs = (if 65536 < (putL sy fs).length then ([], 3) else (putL sy fs, 0)) by unfold putV; rw [qv, if_pos rfl])
    clear qv
    go_wp2_with fail
    refine (H1.out _ (HS.out).hb).mono ?_
    rintro E W2 ⟨rfl, hb⟩
    have HS2 := Aside0.mk ((HS.out).below hb)
    clear hb HS k0 k1 H1
    obtain ⟨k0, k1⟩ := (HS2.out).cells
    by_cases hz : 65536 < (putL sy fs).length
    · have HPW := Aside0.mk (HPV.out.trans (if_pos hz))
      rw [HPW.out] at HP
      clear hz
      go_wp2_with fail
      refine (HP.out _ (HS2.out).hb).mono ?_
      rintro E W3 ⟨rfl, hb⟩
      have HS3 := Aside0.mk ((HS2.out).below hb)
      clear hb HS2 HP k0 k1
      go_wp2_with fail
      refine (HAL.out _ (HS3.out).hb).mono ?_
      rintro E W4 ⟨rfl, hb⟩
      have HS4 := Aside0.mk ((HS3.out).below hb)
      clear hb HS3
      go_wp2
      go_ret
      exact ⟨rfl, (HS4.out).hb⟩
    · have HPW := Aside0.mk (HPV.out.trans (if_neg hz))
      have HRP := Aside0.mk (round_plain HQV.out (by omega))
      have hsz : (ByteArray.mk (putL sy fs).toArray).size ≤ 65536 := by rw [arr_size]; omega
      rw [HPW.out] at HP
      have HG2 := Aside0.mk fun W (hW : Below w.heap.size w W) => HG.out ⟨(putL sy fs).toArray⟩ W hW
      rw [HRP.out] at HG2
      have HSZ := Aside0.mk hsz
      clear hz hsz HG
      generalize hst : (ByteArray.mk (putL sy fs).toArray) = st at *
      clear hst
      have hszz : (st.size : Int) ≤ 65536 := by have := HSZ.out; omega
      go_wp2_with fail
      refine (HP.out _ (HS2.out).hb).mono ?_
      rintro E W3 ⟨rfl, hb⟩
      have HS3 := Aside0.mk ((HS2.out).below hb)
      clear hb HS2 HP k0 k1
      go_wp2_with fail
      refine (HG2.out _ (HS3.out).hb).mono ?_
      rintro E W4 ⟨B1, d1, B2, d2, rfl, h1, l1, h2, l2, hb⟩
      have hba := below_alloc (Below.refl W4.heap.size W4) (.cells #[.slice B1 sy.length d1, .slice B2 fs.length d2] 25)
      have HS4 := Aside0.mk ((HS3.out).below (below_then hb hb.size hba))
      have HX4 := Aside0.mk (blk_new W4 (.cells #[.slice B1 sy.length d1, .slice B2 fs.length d2] 25))
      have HC4 := Aside0.mk (And.intro (And.intro (Kd.C_below h1 hba) (Kd.C_below h2 hba)) (And.intro l1 l2))
      clear hb hba h1 h2 l1 l2 HS3 HG2
      go_upto_region 7 with (fail)
      generalize W4.alloc (.cells #[.slice B1 sy.length d1, .slice B2 fs.length d2] 25) = W5 at *
      generalize W4.heap.size = b4 at *
      obtain ⟨k0, k1⟩ := (HS4.out).cells
      have m0 : W5.cell? ⟨b4, 0, none⟩ = some (.slice B1 sy.length d1) := (blk_cell HX4.out 0).trans rfl
      have m1 : W5.cell? ⟨b4, 1, none⟩ = some (.slice B2 fs.length d2) := (blk_cell HX4.out 1).trans rfl
      go_wp2_with fail
      refine (HSA.out HQV.out B1 B2 d1 d2 _ (HS4.out).hb (HC4.out).1.1 (HC4.out).1.2 (HC4.out).2.1 (HC4.out).2.2).mono ?_
      rintro E W6 ⟨rfl, hb⟩
      have HS6 := Aside0.mk ((HS4.out).below hb)
      clear hb HS4 k0 k1 m0 m1
      go_wp2_with fail
      refine (HAL.out _ (HS6.out).hb).mono ?_
      rintro E W7 ⟨rfl, hb⟩
      have HS7 := Aside0.mk ((HS6.out).below hb)
      clear hb HS6
      go_wp2
      go_ret
      exact ⟨rfl, (HS7.out).hb⟩
end Go.Proofs.YthflpbgloeimfaaGreatDoor.H
namespace Go.Proofs.YthflpbgloeimfaaGreatDoor.H
open Go.ChangeShapes Go.WideShapes Go.ChangeAt Go.RowKit Go.Deep Go.Proofs.YthflpbgloeimfaaGreatDoorW.PrintWords Go.Proofs.YthflpbgloeimfaaGreatDoorW.PrintLast Go.Proofs.YthflpbgloeimfaaGreatDoorW.PrintMore
open Go.Proofs.YthflpbgloeimfaaGreatDoor.Q (S47 k47 S50 k50 S52 k52 S71 k71)
set_option linter.unusedVariables false
set_option linter.unusedSimpArgs false
set_option maxRecDepth 100000
def Opens {α : Type} (P : Program) (t : TypeId) (d : Kd α) (W : α → Prop) : Prop :=
  ∀ {H : Type} (enc : TypeId × Value → H) (w : World) (base : Nat) (held : Bool) (fuel : Nat) (cs : List Value) (x : DataW H × List MemPlace),
    DataW.trod enc P w base (fun _ => true) held fuel t cs = some x → ∃ a : α, d.K w a cs ∧ W a
theorem choose_list {α : Type} {p : Nat → α → Prop} {n : Nat} (h : ∀ i, i < n → ∃ y, p i y) : ∃ xs : List α, xs.length = n ∧ ∀ i y, xs[i]? = some y → p i y := by
  induction n with
  | zero => exact ⟨[], rfl, fun i y h => by simp at h⟩
  | succ n ih =>
    obtain ⟨xs, h1, h2⟩ := ih (fun i hi => h i (by omega))
    obtain ⟨y, hy⟩ := h n (by omega)
    refine ⟨xs ++ [y], by simp [h1], fun i z hz => ?_⟩
    rcases Nat.lt_or_ge i xs.length with hi | hi
    · rw [List.getElem?_append_left hi] at hz
      exact h2 i z hz
    · rw [List.getElem?_append_right hi] at hz
      have h3 : i - xs.length = 0 := by
        rcases Nat.eq_zero_or_pos (i - xs.length) with h | h
        · exact h
        · rw [List.getElem?_eq_none (by simp; omega)] at hz; cases hz
      rw [h3] at hz
      obtain rfl : y = z := by simpa using hz
      rw [show i = n from by omega]
      exact hy
theorem opens_slice {α : Type} {P : Program} {t e : TypeId} {d : Kd α} {W : α → Prop} (ht : P.underlying t = some (.slice e)) (hsz : P.cellsOf e = d.sz) (ho : Opens P e d W) : Opens P t (Kd.slice e d) (fun xs => ∀ x ∈ xs, W x) := by
  intro H enc w base held fuel cs x h
  rcases open_slice ht h with ⟨rfl, _⟩ | ⟨a, len, cap, m, n, D, Pl, rfl, _, hl, hm, hmm, _, hx⟩
  · exact ⟨[], ⟨none, 0, rfl, Nat.le_refl _, rfl, by simp, fun h0 => absurd h0 (by simp)⟩, by simp⟩
  · have hmm' : m = cap := by simpa using hmm
    have each : ∀ i, i < len → ∃ y : α, ∃ cs', w.cells? base (a.add (i * P.cellsOf e)) (P.cellsOf e) = some cs' ∧ d.K w y cs' ∧ W y := by
      intro i hi
      obtain ⟨cs', h1, h2⟩ := hx i (by omega)
      obtain ⟨y, hy, hw⟩ := ho enc w base held n cs' _ h2
      exact ⟨y, cs', h1, hy, hw⟩
    obtain ⟨xs, hxl, hxs⟩ := choose_list each
    refine ⟨xs, ⟨some a, cap, by rw [hxl], by omega, rfl, ?_, fun _ => ⟨a, rfl, fun j p hj => ?_⟩⟩, fun y hy => ?_⟩
    · have : maxLen = 9223372036854775807 := rfl
      omega
    · obtain ⟨cs', h1, h2, _⟩ := hxs j p hj
      obtain ⟨_, hlen, hcell⟩ := World.cells?_some h1
      refine ⟨cs', d.K_len h2, h2, fun i u hu => ?_⟩
      have hi : i < cs'.length := (List.getElem?_eq_some_iff.1 hu).1
      have h3 := hcell i (by omega)
      rw [Go.Deep.add_add, hsz] at h3
      rw [h3]; exact hu
    · obtain ⟨j, hj, rfl⟩ := List.getElem_of_mem hy
      obtain ⟨_, _, _, h3⟩ := hxs j _ (List.getElem?_eq_getElem hj)
      exact h3
theorem open_row {α H : Type} {enc : TypeId × Value → H} {P : Program} {t e : TypeId} {d : Kd α} {W : α → Prop} {w : World} {base fuel : Nat} {held : Bool} {v : Value} {x : DataW H × List MemPlace} (ht : P.underlying t = some (.slice e)) (hsz : P.cellsOf e = d.sz) (ho : Opens P e d W)
    (h : DataW.trod enc P w base (fun _ => true) held fuel t [v] = some x) : ∃ A c xs, v = .slice A xs.length c ∧ xs.length ≤ c ∧ d.C w A xs.length xs ∧ ∀ y ∈ xs, W y := by
  obtain ⟨xs, ⟨A, c, hv, hc, hC⟩, hW⟩ := opens_slice ht hsz ho enc w base held fuel [v] x h
  exact ⟨A, c, xs, by simpa using hv, hc, hC, hW⟩
theorem open_kidsG {α H : Type} {d : Kd α} {ts te : TypeId} (hts : Tryz.prog.underlying ts = some (.slice te)) (hsz : Tryz.prog.cellsOf te = d.sz) {enc : TypeId × Value → H} {w : World} {base fuel : Nat} {held : Bool} {cs : List Value} {x : DataW H × List MemPlace} (h : DataW.trod enc Tryz.prog w base (fun _ => true) held fuel ts cs = some x)
    (each : ∀ (fuel : Nat) (cs : List Value) (y : DataW H × List MemPlace), SizeOf.sizeOf y.1 < SizeOf.sizeOf x.1 → DataW.trod enc Tryz.prog w base (fun _ => true) held fuel te cs = some y → ∃ t : α, d.K w t cs) :
    ∃ (A : Option Addr) (c : Nat) (l : List α), cs = [.slice A l.length c] ∧ l.length ≤ c ∧ d.C w A l.length l := by
  rcases open_slice hts h with ⟨rfl, _⟩ | ⟨a, len, cap, m, n, D, Pl, rfl, _, hl, hm, hmm, hxe, hx⟩
  · exact ⟨none, 0, [], rfl, Nat.le_refl _, rfl, by simp, fun h0 => absurd h0 (by simp)⟩
  · have hmm' : m = cap := by simpa using hmm
    have hel : ∀ i, i < len → ∃ t : α, ∃ cs', w.cells? base (a.add (i * Tryz.prog.cellsOf te)) (Tryz.prog.cellsOf te) = some cs' ∧ d.K w t cs' := by
      intro i hi
      obtain ⟨cs', h1, h2⟩ := hx i (by omega)
      have hlt : SizeOf.sizeOf (D i) < SizeOf.sizeOf x.1 := by
        rw [hxe]
        have hmem : D i ∈ (List.range len).map D := List.mem_map.2 ⟨i, List.mem_range.2 hi, rfl⟩
        have := List.sizeOf_lt_of_mem hmem
        simp only [DataW.slice.sizeOf_spec]
        omega
      obtain ⟨t, ht⟩ := each n cs' _ hlt h2
      exact ⟨t, cs', h1, ht⟩
    obtain ⟨xs, hxl, hxs⟩ := choose_list hel
    refine ⟨some a, cap, xs, by rw [hxl], by omega, rfl, ?_, fun _ => ⟨a, rfl, fun j p hj => ?_⟩⟩
    · have : maxLen = 9223372036854775807 := rfl
      omega
    · obtain ⟨cs', h1, h2⟩ := hxs j p hj
      obtain ⟨_, hlen, hcell⟩ := World.cells?_some h1
      refine ⟨cs', d.K_len h2, h2, fun i u hu => ?_⟩
      have hi : i < cs'.length := (List.getElem?_eq_some_iff.1 hu).1
      have h3 := hcell i (by omega)
      rw [Go.Deep.add_add, hsz] at h3
      rw [h3]; exact hu
theorem open_srt {H : Type} {enc : TypeId × Value → H} {w : World} {base : Nat} {held : Bool} (N : Nat) : ∀ (fuel : Nat) (cs : List Value) (x : DataW H × List MemPlace), SizeOf.sizeOf x.1 ≤ N → DataW.trod enc Tryz.prog w base (fun _ => true) held fuel 47 cs = some x → ∃ t : S47, k47.K w t cs := by
  induction N with
  | zero =>
    intro fuel cs x hN
    have : 0 < SizeOf.sizeOf x.1 := by cases x.1 <;> simp <;> omega
    omega
  | succ N ih =>
    intro fuel cs x hN h
    obtain ⟨y0, n, rfl, hl, h0⟩ := trod_struct1 Tryz.underlying47 h
    have o0 : (Tryz.prog.cellsOf 43) = 1 := by kernel_rfl
    have o2 : (Tryz.prog.cellsOf 47) = 1 := by kernel_rfl
    rw [o2] at hl
    match cs, hl with
    | [c0], _ =>
      simp only [o0] at h0
      obtain ⟨A, c, l, e1, hlc, hC⟩ := open_kidsG (d := k47) Tryz.underlying43 (by kernel_rfl) h0 (fun fuel cs y hy hh => ih fuel cs y (by simp only [DataW.agg.sizeOf_spec, List.cons.sizeOf_spec, List.nil.sizeOf_spec] at hN; omega) hh)
      obtain rfl : c0 = .slice A l.length c := by simpa using e1
      exact ⟨⟨l⟩, Q.k47_mk w ⟨l⟩ hlc hC⟩
theorem open_trm {H : Type} {enc : TypeId × Value → H} {w : World} {base : Nat} {held : Bool} (N : Nat) : ∀ (fuel : Nat) (cs : List Value) (x : DataW H × List MemPlace), SizeOf.sizeOf x.1 ≤ N → DataW.trod enc Tryz.prog w base (fun _ => true) held fuel 50 cs = some x → ∃ t : S50, k50.K w t cs := by
  induction N with
  | zero =>
    intro fuel cs x hN
    have : 0 < SizeOf.sizeOf x.1 := by cases x.1 <;> simp <;> omega
    omega
  | succ N ih =>
    intro fuel cs x hN h
    obtain ⟨y0, y1, y2, n, rfl, hl, h0, h1, h2⟩ := trod_struct3 Tryz.underlying50 h
    have o0 : (Tryz.prog.cellsOf 3) = 1 := by kernel_rfl
    have o1 : (Tryz.prog.cellsOf 48) = 1 := by kernel_rfl
    have o2 : (Tryz.prog.cellsOf 50) = 3 := by kernel_rfl
    rw [o2] at hl
    match cs, hl with
    | [c0, c1, c2], _ =>
      simp only [o0, o1] at h0 h1 h2
      obtain ⟨s, e0, _, _⟩ := DataW.trod_int Tryz.underlying3 h0
      obtain ⟨t, e1, _, _⟩ := DataW.trod_int Tryz.underlying3 h1
      obtain ⟨A, c, l, e2, hlc, hC⟩ := open_kidsG (d := k50) Tryz.underlying48 (by kernel_rfl) h2 (fun fuel cs y hy hh => ih fuel cs y (by simp only [DataW.agg.sizeOf_spec, List.cons.sizeOf_spec, List.nil.sizeOf_spec] at hN; omega) hh)
      obtain rfl : c0 = .int .i64 s := by simpa using e0
      obtain rfl : c1 = .int .i64 t := by simpa using e1
      obtain rfl : c2 = .slice A l.length c := by simpa using e2
      exact ⟨⟨s, t, l⟩, Q.k50_mk w ⟨s, t, l⟩ hlc hC⟩
theorem opens_fun : Opens Tryz.prog 52 k52 (fun _ => True) := by
  intro H enc w base held fuel cs x h
  obtain ⟨y0, y1, y2, n, rfl, hl, h0, h1, h2⟩ := trod_struct3 Tryz.underlying52 h
  have o0 : (Tryz.prog.cellsOf 9) = 1 := by kernel_rfl
  have o1 : (Tryz.prog.cellsOf 47) = 1 := by kernel_rfl
  have o2 : (Tryz.prog.cellsOf 50) = 3 := by kernel_rfl
  have o3 : (Tryz.prog.cellsOf 52) = 5 := by kernel_rfl
  rw [o3] at hl
  match cs, hl with
  | [c0, c1, c2, c3, c4], _ =>
    simp only [o0, o1, o2] at h0 h1 h2
    obtain ⟨s, e0, _, _⟩ := DataW.trod_string Tryz.underlying9 h0
    obtain ⟨t, ht⟩ := open_srt _ _ _ _ (Nat.le_refl _) h1
    obtain ⟨u, hu⟩ := open_trm _ _ _ _ (Nat.le_refl _) h2
    obtain ⟨A1, d1, e1, l1, g1⟩ := Q.k47_open ht
    obtain ⟨A4, d4, e4, l4, g4⟩ := Q.k50_open hu
    have f0 : c0 = .string s := by simpa using e0
    have f1 : c1 = .slice A1 t.f0.length d1 := by simpa using e1
    have f4 : c2 = .int .i64 u.f0 ∧ c3 = .int .i64 u.f1 ∧ c4 = .slice A4 u.f2.length d4 := by simpa using e4
    obtain ⟨rfl, rfl, rfl⟩ := f4
    subst f0 f1
    exact ⟨⟨s, t, u⟩, Q.k52_mk w ⟨s, t, u⟩ l1 g1 l4 g4, trivial⟩
theorem opens_sym : Opens Tryz.prog 71 k71 (fun _ => True) := by
  intro H enc w base held fuel cs x h
  obtain ⟨y0, y1, n, rfl, hl, h0, h1⟩ := trod_struct2 Tryz.underlying71 h
  have o0 : (Tryz.prog.cellsOf 9) = 1 := by kernel_rfl
  have o1 : (Tryz.prog.cellsOf 3) = 1 := by kernel_rfl
  have o2 : (Tryz.prog.cellsOf 71) = 2 := by kernel_rfl
  rw [o2] at hl
  match cs, hl with
  | [c0, c1], _ =>
    simp only [o0, o1] at h0 h1
    obtain ⟨s, e0, _, _⟩ := DataW.trod_string Tryz.underlying9 h0
    obtain ⟨t, e1, _, _⟩ := DataW.trod_int Tryz.underlying3 h1
    obtain rfl : c0 = .string s := by simpa using e0
    obtain rfl : c1 = .int .i64 t := by simpa using e1
    exact ⟨⟨s, t⟩, Q.k71_mk w ⟨s, t⟩, trivial⟩
theorem arg_scheme {H : Type} {enc : TypeId × Value → H} {w : World} {base : Nat} {held : Bool} {v : Value} {d : DataW H} {p : List MemPlace} (hv : Value.okWide Tryz.prog w .any base 25 v) (h : DataW.Trod enc Tryz.prog w 0 (fun _ => true) held 25 v d p) :
    ∃ (sy : List S71) (fs : List S52) (A1 : Option Addr) (c1 : Nat) (A2 : Option Addr) (c2 : Nat), v = .agg #[.slice A1 sy.length c1, .slice A2 fs.length c2] ∧ sy.length ≤ c1 ∧ Kd.C k71 w A1 sy.length sy ∧ fs.length ≤ c2 ∧ Kd.C k52 w A2 fs.length fs := by
  obtain ⟨x0, y0, _, _, n0, rfl, _, _, a0, b0⟩ := Go.Joins.open_agg2 Tryz.underlying25 (by kernel_rfl) (by kernel_rfl) hv h
  obtain ⟨A1, c1, sy, rfl, hl1, hC1, _⟩ := open_row (d := k71) Tryz.underlying22 (by kernel_rfl) opens_sym a0
  obtain ⟨A2, c2, fs, rfl, hl2, hC2, _⟩ := open_row (d := k52) Tryz.underlying23 (by kernel_rfl) opens_fun b0
  exact ⟨sy, fs, A1, c1, A2, c2, rfl, hl1, hC1, hl2, hC2⟩
theorem own : ownKnob Tryz.prog.godebug = none := by kernel_rfl
theorem laidOut : laidOutB Tryz.prog = true := by kernel_rfl
abbrev laid7 : List (String × DataW Unit) := [("math/bits.deBruijn32tab", Rows.laid_math_bits_deBruijn32tab), ("math/bits.deBruijn64tab", Rows.laid_math_bits_deBruijn64tab), ("internal/strconv.uint64pow10", Rows.laid_internal_strconv_uint64pow10), ("unicode/utf8.acceptRanges", Rows.laid_unicode_utf8_acceptRanges), ("strconv.ErrRange", Rows.laid_strconv_ErrRange), ("strconv.ErrSyntax", Rows.laid_strconv_ErrSyntax), ("unicode/utf8.first", Rows.laid_unicode_utf8_first)]
theorem mx_of_shaped {w : World} (h : w.ShapedOpen Tryz.prog) : MX w :=
  Go.Proofs.cell_of_shapedOpen_int (g := 0) (t := 3) (zero := #[.int .i64 0]) h (of_decide_eq_true (by kernel_rfl)) (by kernel_rfl) rfl (by kernel_rfl) (by kernel_rfl) Tryz.underlying3
theorem handed_and_shaped {H : Type} {enc : TypeId × Value → H} {a : Assume} {C : Checked} {os : Os} {f : FuncId} {fn : Func} {s : ChangeSpec} {conds : List PathCond} {apart fresh handsOn again : Bool} {X : World → Array Value → Prop}
    (hX : ∀ (w w' : World) (args : Array Value), w.heap = w'.heap → X w args → X w' args)
    (own : ownKnob C.prog.godebug = none) (started : os.Started) (noInit : C.prog.inits.idxOf? f = none) (hfn : C.prog.funcs[f]? = some fn)
    (witness : ∃ (w : World) (tape : Tape) (i : Input), w.os = os ∧ (w.forCall tape i).Shaped C.prog ∧ i.vars = [] ∧ Input.okWide C.prog (w.forCall tape i) .any w.heap.size f i ∧
      ((s.pre enc C.prog fn conds apart (w.forCall tape i).memory i.args ∧ X (w.forCall tape i).memory i.args) ∧ sizedMet enc C.prog fn (OpenSpec.ofChange s) apart (w.forCall tape i).memory i.args) ∧ a.holds C.prog (lone (Frame.enter C.prog f i.args .normal) [] (w.forCall tape i)))
    (contract : ∀ (W : World) (base : Nat) (args : Array Value) (ds gs : List (DataW H)) (before : List MemPlace),
      (∀ (j : Nat) t v, fn.params[j]? = some t → args[j]? = some v → Value.okWide C.prog W .any base t v) →
      DataW.Whole enc C.prog fn.params.toList s.vars apart W args.toList ds gs before →
      conds.all (PathCond.test C.prog ⟨fn.params.toList, ds, s.plain.varTypes C.prog, gs⟩) = true →
      X W args → W.ShapedOpen C.prog →
      Calls C.prog f args W fun e W' => ∃ v, e = .returned v ∧ s.post enc C.prog fn apart fresh handsOn again W args v W') :
    ReturnsInHanded a C os f .any (fun w args => (s.pre enc C.prog fn conds apart w args ∧ X w args) ∧ sizedMet enc C.prog fn (OpenSpec.ofChange s) apart w args) (s.post enc C.prog fn apart fresh handsOn again) := by
  refine returnsInHanded_of_calls own started noInit witness ?_
  intro w tape i _ hsh _ hok hpre hholds
  obtain ⟨_, _, _, fn', hfn', _, _, _, _, hval⟩ := hok
  have e : fn' = fn := Option.some.inj (hfn'.symm.trans hfn)
  subst e
  obtain ⟨⟨⟨ds, gs, before, hw, hc⟩, hx⟩, hz⟩ := hpre
  have hw' := DataW.Whole.of_heap (w' := w.forCall tape i) (by rfl) hw
  refine (contract (w.forCall tape i) w.heap.size i.args ds gs before hval hw' hc (hX _ _ _ (by rfl) hx) hsh).mono fun e W' ⟨v, he, hp⟩ => ?_
  subst he
  exact ChangeSpec.post_blind hp
end Go.Proofs.YthflpbgloeimfaaGreatDoor.H
