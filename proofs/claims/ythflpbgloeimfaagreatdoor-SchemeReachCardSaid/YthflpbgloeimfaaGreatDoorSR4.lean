/- What schemeReach_calls, handed_and_shaped, own, laidOut, laid7, mx_of_shaped, arg_scheme needs, out of my texts, by a program (slim.py). -/
import Derived.Test.YthflpbgloeimfaaGreatDoorSR3
namespace Go.Proofs.YthflpbgloeimfaaGreatDoor.H
open Go.RowKit Go.Proofs.YthflpbgloeimfaaGreatDoorW.PrintWords Go.Proofs.YthflpbgloeimfaaGreatDoorW.PrintLast Go.Proofs.YthflpbgloeimfaaGreatDoorW.PrintMore
open Go.Proofs.YthflpbgloeimfaaGreatDoor.Q (S47 k47 rd_T47 z47 at_T47 S50 k50 rd_T50 z50 at_T50 S52 k52 rd_T52 at_T52 z52 S71 k71 rd_T71 at_T71)
set_option linter.unusedVariables false
theorem symR_size {l : List UInt8} {y : S71} (h : symR l = some y) : y.f0.size ≤ l.length := by
  unfold symR at h
  split at h
  · obtain rfl := Option.some.inj h
    have := (cut_size l [32]).1
    show (Lib.cut l [32]).1.toArray.size ≤ l.length
    rw [List.size_toArray]; exact this
  · cases h
theorem line_cases (l : List UInt8) (n : Nat) : (Lib.hasPrefix l pSym = true ∧ n = 0) ∨ (Lib.hasPrefix l pSym = true ∧ ¬ n = 0) ∨ Lib.hasPrefix l pSym = false := by
  cases Lib.hasPrefix l pSym with
  | true => by_cases h : n = 0 <;> simp [h]
  | false => simp
def lnFun (g : GSt) (s : ByteArray) : Option GSt :=
  if Lib.hasPrefix s.data.toList pFun = true ∧ (Lib.cut (Lib.trimPrefix s.data.toList pFun) [32, 58, 32]).2.2 = true ∧ (Lib.cut (Lib.cut (Lib.trimPrefix s.data.toList pFun) [32, 58, 32]).2.1 [32, 61, 32]).2.2 = true ∧ nameB ⟨(Lib.cut (Lib.trimPrefix s.data.toList pFun) [32, 58, 32]).1.toArray⟩ = true then
    (if (getSR ⟨(Lib.cut (Lib.cut (Lib.trimPrefix s.data.toList pFun) [32, 58, 32]).2.1 [32, 61, 32]).1.toArray⟩).1 = 4 then none
     else some { sy := g.sy, fs := g.fs ++ [⟨⟨(Lib.cut (Lib.trimPrefix s.data.toList pFun) [32, 58, 32]).1.toArray⟩, (getSR ⟨(Lib.cut (Lib.cut (Lib.trimPrefix s.data.toList pFun) [32, 58, 32]).2.1 [32, 61, 32]).1.toArray⟩).2, ⟨0, 0, []⟩⟩], bo := g.bo ++ [⟨(Lib.cut (Lib.cut (Lib.trimPrefix s.data.toList pFun) [32, 58, 32]).2.1 [32, 61, 32]).2.1.toArray⟩], large := g.large || decide ((getSR ⟨(Lib.cut (Lib.cut (Lib.trimPrefix s.data.toList pFun) [32, 58, 32]).2.1 [32, 61, 32]).1.toArray⟩).1 ≠ 0) })
  else none
theorem lnStep_fun0 {g : GSt} {s : ByteArray} (h : ¬ (Lib.hasPrefix s.data.toList pSym = true ∧ g.fs.length = 0)) : lnStep g s = lnFun g s := by
  unfold lnStep lnFun
  simp only
  rw [if_neg h]
theorem info9 : (Tryz.prog.info? 9).map (fun i => (i.zero, i.size, i.bytes)) = some (some (.string ⟨#[]⟩), 1, 16) := by kernel_rfl
theorem bytes_empty {s : ByteArray} (h : s.toList.isEmpty = true) : s = ByteArray.empty := by
  rw [Lib.toList_data] at h
  rcases s with ⟨⟨l⟩⟩
  have : l = [] := List.isEmpty_iff.1 h
  rw [this]; rfl
set_option maxHeartbeats 16000000 in
set_option maxRecDepth 100000 in
theorem get3_calls (t : ByteArray) (w : World) (hm : MX w) : Calls Tryz.prog 19 #[.string t] w (GetE3 t w) := by
  have hmf := run_mkfun3
  have hmm := @run_makeMap Tryz.prog
  have HM := Aside0.mk hm
  have HG := Aside0.mk (GH3.start w)
  have HSZ1 := Aside0.mk (show ((w.alloc (.cells #[.slice none 0 0, .slice none 0 0] 25)).alloc (.cells #[.int .i64 0] 26)).heap.size = w.heap.size + 2 from by simp)
  clear hm
  go_enter_defers Tryz.func19, Tryz.ntmps19
  go_upto_region 1 with (fail)
  generalize ((w.alloc (.cells #[.slice none 0 0, .slice none 0 0] 25)).alloc (.cells #[.int .i64 0] 26)) = W1 at *
  obtain ⟨c0, c1, c3⟩ := (HG.out).cells
  obtain ⟨f0, f1, f3⟩ := (HG.out).frozen
  cases q1 : decide ((t.size : Int) > 65536) with
  | true =>
    have HR := Aside0.mk (show getR3 t = (3, [], []) by unfold getR3; rw [if_pos (by have := of_decide_eq_true q1; omega)])
    have HQ := Aside0.mk (((HG.out).set0 (.slice none 0 0)).set1 (.slice none 0 0))
    go_wp2
    exact get3_ret0 HR.out ((HQ.out).hb.setCell (p := ⟨w.heap.size + 1, 0, none⟩) (Nat.le_succ _) _) (blk_far (HQ.out).ha (by show w.heap.size ≠ w.heap.size + 1; omega) _) (blk_set (HQ.out).he 0 _) _ rfl rfl
  | false =>
  have HSZ := Aside0.mk (show t.size ≤ 65536 by have := of_decide_eq_false q1; omega)
  have HSP := Aside0.mk (split_calls t 10 W1 (by have := HSZ.out; omega) ((HM.out).below (HG.out).hb))
  clear c0 c1 c3 f0 f1 f3
  go_wp2_with fail
  refine (HSP.out).mono ?_
  rintro E w2 ⟨rfl, hw⟩
  clear q1
  have hb := below_alloc (Below.refl W1.heap.size W1) (.cells ((chunks t 10).map Value.string).toArray 9)
  have hbn := blk_new W1 (.cells ((chunks t 10).map Value.string).toArray 9)
  rw [← hw] at hb hbn
  have HG2 := Aside0.mk ((HG.out).below hb)
  have HLB := Aside0.mk hbn
  have HLS := Aside0.mk (show (chunks t 10).length ≤ 65537 from by have := chunks_short t 10; have := HSZ.out; omega)
  have HV1 := Aside0.mk (fun h => getV3_end (t := t) h)
  have HV2 := Aside0.mk (fun h => getV3_lines (t := t) h)
  have HV3 := Aside0.mk (fun h0 g h => getV3_main (t := t) h0 (g := g) h)
  have HCS := Aside0.mk (fun i => chunk_size t 10 i)
  have HBL := Aside0.mk (show w.heap.size + 2 ≤ W1.heap.size from by have := HSZ1.out; omega)
  have hpos := chunks_pos t 10
  clear hw hb hbn HG HSP HSZ1
  generalize chunks t 10 = L at *
  generalize W1.heap.size = bl at *
  have hk := strs_cell HLB.out (show L.length - 1 < L.length by omega)
  generalize hle : L.getD (L.length - 1) ByteArray.empty = le at *
  have HLEE := Aside0.mk hle
  clear hle
  have hz2 : IntKind.i64.wrap ((L.length : Int) - 1) = (L.length : Int) - 1 := by have := HLS.out; simp [IntKind.wrap, IntKind.bits, IntKind.signed]; omega
  cases q3 : le.toList.isEmpty with
  | false =>
    have HN := Aside0.mk (HV1.out (fun e => by rw [e, Lib.toList_data] at q3; revert q3; decide))
    go_wp2
    exact get3_panic (getR3_bad HSZ.out HN.out) HG2.out _ rfl rfl
  | true =>
  have HLE := Aside0.mk (show le = ByteArray.empty from bytes_empty q3)
  go_upto_region 10 with (fail)
  clear hk hz2 q3
  obtain ⟨n, hn⟩ : ∃ n, L.length = n + 1 := ⟨L.length - 1, by omega⟩
  have hlt3 := blk_lt HLB.out
  have HF := Aside0.mk (show FL w (((w2.alloc (.map #[] 0)).alloc (.map #[] 0)).alloc (.cells #[.string ⟨#[]⟩, .map (some w2.heap.size), .map (some (w2.heap.size + 1))] 92)) L bl w2.heap.size (w2.heap.size + 1) (w2.heap.size + 1 + 1) [] [] [] [] [] [] none 0 none 0 none 0 from by
    have b1 := below_alloc (Below.refl w2.heap.size w2) (.map #[] 0)
    have b2 := below_alloc (Below.refl (w2.alloc (.map #[] 0)).heap.size (w2.alloc (.map #[] 0))) (.map #[] 0)
    have b3 := below_alloc (Below.refl ((w2.alloc (.map #[] 0)).alloc (.map #[] 0)).heap.size ((w2.alloc (.map #[] 0)).alloc (.map #[] 0))) (.cells #[.string ⟨#[]⟩, .map (some w2.heap.size), .map (some (w2.heap.size + 1))] 92)
    have hb := below_then (below_then b1 b1.size b2) (below_then b1 b1.size b2).size b3
    have m1 := ((mapIs_new w2 Value.string ki sdom).below b2).below b3
    have m2 := (mapIs_new (w2.alloc (.map #[] 0)) Value.string ki sdom).below b3
    have e1 : (w2.alloc (.map #[] 0)).heap.size = w2.heap.size + 1 := by simp
    have e2 : ((w2.alloc (.map #[] 0)).alloc (.map #[] 0)).heap.size = w2.heap.size + 1 + 1 := by simp
    have hx := blk_new ((w2.alloc (.map #[] 0)).alloc (.map #[] 0)) (.cells #[.string ⟨#[]⟩, .map (some w2.heap.size), .map (some (w2.heap.size + 1))] 92)
    rw [e2] at hx
    rw [e1] at m2
    exact ⟨(HG2.out).below hb, blk_below HLB.out hb, ⟨hx⟩, m1, m2, Kd.R_nil _ _ _ _ _, Kd.R_nil _ _ _ _ _, Kd.R_nil _ _ _ _ _, by have := HBL.out; omega⟩)
  have HLT := Aside0.mk hlt3
  clear hlt3 HG2 HLB HBL hmm
  generalize (((w2.alloc (.map #[] 0)).alloc (.map #[] 0)).alloc (.cells #[.string ⟨#[]⟩, .map (some w2.heap.size), .map (some (w2.heap.size + 1))] 92)) = w3 at *
  generalize w2.heap.size = B at *
  rw [hn] at HV2 HV3 HLEE HLS
  rw [show n + 1 - 1 = n from rfl] at HV2 HV3 HLEE
  have HLL := Aside0.mk hn
  rw [hn, show ((n + 1 : Nat) : Int) = (n : Int) + 1 from by omega, show (n : Int) + 1 - 1 = (n : Int) by omega, show n + 1 - 1 = n from rfl]
  have hz1 : wrap64 (n : Int) = (n : Int) := wr_id (by omega) (by have := HLS.out; omega)
  have hz2 : (0 : Int) ≤ (n : Int) ∧ (n : Int) ≤ (n : Int) + 1 := by omega
  have hz3 : max (n : Int) 0 = (n : Int) := by omega
  clear hn hpos
  go_wp2
  clear hz1 hz2 hz3
  go_loopg [6, 7, 55] n (fun gg v6 v7 v55 wi => ∃ (i : Nat) (G : GSt) (A1 : Option Addr) (c1 : Nat) (A2 : Option Addr) (c2 : Nat) (A3 : Option Addr) (c3 : Nat), i ≤ n ∧ n - i ≤ gg ∧ v6 = .slice A3 G.bo.length c3 ∧ v7 = .bool G.large ∧ v55 = .int .i64 i ∧ Aside0 (lnAll ⟨[], [], [], false⟩ (L.take i) = some G) ∧ Aside0 (G.sy.length + G.fs.length = i ∧ G.bo.length = G.fs.length) ∧ Aside0 (FL w wi L bl B (B + 1) (B + 1 + 1) [] G.sy G.fs G.bo (nmE (G.sy.map (·.f0))) (nmE (G.fs.map (·.f0))) A1 c1 A2 c2 A3 c3))
  case atStart => exact ⟨0, ⟨[], [], [], false⟩, none, 0, none, 0, none, 0, Nat.zero_le _, Nat.le_refl _, rfl, rfl, rfl, ⟨rfl⟩, ⟨rfl, rfl⟩, HF⟩
  case round =>
    clear HF
    obtain ⟨i, G, A1, c1, A2, c2, A3, c3, hi, hgg, rfl, rfl, rfl, HG, HN, HF⟩ := hrel
    by_cases hlt : i < n
    · have hltz : (i : Int) < (n : Int) := by omega
      have HIN := Aside0.mk hlt
      have hk := strs_cell (HF.out).l (show i < L.length by have := HLL.out; omega)
      have HSB := Aside0.mk (HCS.out i)
      have HTK := Aside0.mk (show L.take (i + 1) = L.take i ++ [L.getD i ByteArray.empty] by
        have hi2 : i < L.length := by have := HLL.out; omega
        rw [List.take_succ_eq_append_getElem hi2, List.getD_eq_getElem?_getD, List.getElem?_eq_getElem hi2]; rfl)
      generalize L.getD i ByteArray.empty = s at *
      have HSTEP := Aside0.mk (show lnAll ⟨[], [], [], false⟩ (L.take (i + 1)) = lnStep G s by rw [HTK.out, lnAll_snoc, HG.out]; rfl)
      have HBAD := Aside0.mk (fun (h : lnStep G s = none) => getR3_bad HSZ.out (HV2.out (lnAll_none HIN.out (by have := HLL.out; omega) (HSTEP.out.trans h))))
      have HKZ := Aside0.mk (show wrap64 ((i : Int) + 1) = ((i + 1 : Nat) : Int) by rw [wr_id (by omega) (by have := HLS.out; omega)]; rfl)
      clear HTK
      have HP1 := Aside0.mk (fun (W1 : World) => Tryz.strings_CutPrefix s ⟨#[115, 121, 109, 98, 111, 108, 32]⟩ W1)
      rw [show (ByteArray.mk #[115, 121, 109, 98, 111, 108, 32]).data.toList = pSym from rfl] at HP1
      go_wp2_with fail
      refine (HP1.out _).mono ?_
      rintro E w4 ⟨rfl, hw⟩
      subst hw
      have g1 := (HF.out).g.cells.2.1
      rcases line_cases s.data.toList G.fs.length with ⟨q1, hfz⟩ | ⟨q1, hfz⟩ | q1
      · · have hfzz : (G.fs.length : Int) = 0 := by omega
          have hsz : (ByteArray.mk (Lib.trimPrefix s.data.toList pSym).toArray).size ≤ 70000 := by
            show (Lib.trimPrefix s.data.toList pSym).toArray.size ≤ 70000
            rw [List.size_toArray]
            have := trim_len s.data.toList pSym
            rw [← Lib.size_eq] at this
            have := HSB.out; have := HSZ.out
            omega
          have HSY := Aside0.mk (symbol_calls ⟨(Lib.trimPrefix s.data.toList pSym).toArray⟩ w4 hsz ((HM.out).below (HF.out).hb))
          rw [show (ByteArray.mk (Lib.trimPrefix s.data.toList pSym).toArray).data.toList = Lib.trimPrefix s.data.toList pSym from rfl] at HSY
          have HLN := Aside0.mk (show lnStep G s = (symR (Lib.trimPrefix s.data.toList pSym)).map fun y => { G with sy := G.sy ++ [y] } by unfold lnStep; simp only; rw [if_pos ⟨q1, hfz⟩])
          have HFZ := Aside0.mk hfz
          have HLX := Aside0.mk (show (Lib.trimPrefix s.data.toList pSym).length ≤ s.size from by have := trim_len s.data.toList pSym; rw [← Lib.size_eq] at this; exact this)
          clear hsz
          generalize Lib.trimPrefix s.data.toList pSym = lx at *
          go_wp2_with fail
          refine (HSY.out).mono ?_
          rintro E w5 ⟨hb, hE⟩
          have HF5 := Aside0.mk ((HF.out).below hb)
          clear hb HSY HF hk g1
          rcases hE with ⟨hn, rfl⟩ | ⟨y, hy, rfl⟩
          · have HX := Aside0.mk (HBAD.out (by rw [HLN.out, hn]; rfl))
            clear hn q1 hfz hfzz
            unfold pwrong
            go_wp2
            exact get3_panic HX.out (HF5.out).g _ rfl rfl
          · have HGO := Aside0.mk (show lnStep G s = some { G with sy := G.sy ++ [y] } by rw [HLN.out, hy]; rfl)
            have HYZ := Aside0.mk (show y.f0.size ≤ 70000 by have := symR_size hy; have := HSB.out; have := HSZ.out; have := HLX.out; omega)
            have HSN := Aside0.mk (show (G.sy ++ [y]).map (·.f0) = G.sy.map (·.f0) ++ [y.f0] by simp)
            have HSL := Aside0.mk (show G.sy.length ≤ 70000 from by have := (HN.out).1; have := HLS.out; have := HIN.out; omega)
            clear hy q1 hfz hfzz HLN HBAD
            go_upto_region 16 with (fail)
            have HX6 := Aside0.mk (blk_new w5 (.cells #[.string y.f0, .int .i64 y.f1] 71))
            have HF6 := Aside0.mk ((HF5.out).below (below_alloc (Below.refl w5.heap.size w5) (.cells #[.string y.f0, .int .i64 y.f1] 71)))
            have hb6 := (HF5.out).lt
            clear HF5
            generalize (w5.alloc (.cells #[.string y.f0, .int .i64 y.f1] 71)) = w6 at *
            have HBY := Aside0.mk (show B + 1 + 1 < w5.heap.size ∧ w.heap.size + 2 ≤ B from ⟨hb6, by have := (HF6.out).n; omega⟩)
            clear hb6
            generalize w5.heap.size = by_ at *
            have hq1 := (HF6.out).rt.cells.2.1
            have x0 : w6.cell? ⟨by_, 0, none⟩ = some (.string y.f0) := (blk_cell HX6.out 0).trans rfl
            have HDOM := Aside0.mk (show sdom y.f0 from by unfold sdom maxLen; have := HYZ.out; omega)
            have hl : ∀ m, _ := fun m => MapIs.look ((HF6.out).m1.below (pw_below_drewN (Below.refl _ _) m)) keyStr Tryz.underlying90 (zero3 (w6.drewN m)) HDOM.out true
            cases qm : mget y.f0 (nmE (G.sy.map (·.f0))) with
            | none =>
              rw [qm] at hl
              simp only [if_true] at hl
              have HQM := Aside0.mk qm
              clear qm
              go_quiet (fail)
              have HF7 := Aside0.mk ((HF6.out).below (pw_below_drewN (Below.refl w6.heap.size w6) nq))
              have HX7 := Aside0.mk (blk_below HX6.out (pw_below_drewN (Below.refl w6.heap.size w6) nq))
              clear HF6 HX6 hq1 x0 hl
              generalize w6.drewN nq = w7 at *
              go_upto_region 18 with (fail)
              have hq1 := (HF7.out).rt.cells.2.1
              have x0 : w7.cell? ⟨by_, 0, none⟩ = some (.string y.f0) := (blk_cell HX7.out 0).trans rfl
              have d0 := (HF7.out).g.cells.1
              refine wp_region_still_tail 9 (by kernel_rfl) (by kernel_rfl) ?_
              simp only [List.take_succ_cons, List.take_zero, List.drop_succ_cons, List.drop_zero]
              repeat (refine wpStill_step (fun K hK => ?_); go_simp; refine hK _ ?_; clear hK K)
              refine wpStill_nil ?_
              change wpList _ _ _ _ _ w7.drew
              clear hq1 x0 d0
              have HF7d := Aside0.mk ((HF7.out).below (below_drew (Below.refl _ _)))
              have HX7d := Aside0.mk (blk_below HX7.out (below_drew (Below.refl _ _)))
              clear HF7 HX7
              generalize w7.drew = w7d at *
              obtain ⟨W8, hput, hm8, hg8⟩ := MapIs.put (HF7d.out).m1 keyStr Tryz.underlying90 HDOM.out (G.sy.length : Int)
              rw [show (G.sy.length : Int) = ((G.sy.map (·.f0)).length : Int) by rw [List.length_map], nmE_put HQM.out, ← HSN.out] at hm8
              unfold ki at hput
              have HF8 := Aside0.mk ((HF7d.out).put1 hm8 hg8)
              have HX8 := Aside0.mk (blk_grown HX7d.out hg8 (fun e => by have := Option.some.inj e; have := (HBY.out).1; omega))
              clear hm8 hg8 HF7d HX7d
              have HLE7 := Aside0.mk (show (G.sy.length + 1) * 24 ≤ 140737488355328 by have := HSL.out; omega)
              have d0 := (HF8.out).g.cells.1
              have x0 : W8.cell? ⟨by_, 0, none⟩ = some (.string y.f0) := (blk_cell HX8.out 0).trans rfl
              have x1 : W8.cell? ⟨by_, 1, none⟩ = some (.int .i64 y.f1) := (blk_cell HX8.out 1).trans rfl
              clear HX8
              go_wp2_with ((with_reducible refine gate_builtin (b := .append) (xs := #[.tmp 95, .tmp 97]) rfl ?_); at_builtin; refine Kd.R_append k71 (w0 := w) w.heap.size rfl (.tmp 95) (.tmp 97) 22 71 (.agg #[.string ⟨#[]⟩, .int .i64 0]) 24 rfl Tryz.underlying22 Q.info71 rfl (show 0 < 2 by decide) (by decide) (.slice A1 G.sy.length c1) G.sy y [.string y.f0, .int .i64 y.f1] (fun k => B + 1 + 1 < k) (fun _ => False) rfl rfl (Q.k71_mkM _ _ _ y) (fun _ hk => hk.elim) (fun k hk => Nat.lt_of_lt_of_le (HF8.out).lt hk) (HF8.out).r1 (HF8.out).hb (HF8.out).hb.size HLE7.out ?_; intro v9 w9 ho5 hb5 hg5 hat5; (obtain ⟨A9, c9, rfl⟩ := Kd.R_slice ho5); have HF9 := Aside0.mk ((HF8.out).push1 ho5 hb5 hg5); have hGG := (HF8.out).g.grown hb5 hg5 (fun k hk => by have := (HF8.out).r1.1 k hk; have := (HF8.out).n; omega); have c6 := hGG.cells.1; have f6 := hGG.frozen.1; clear hGG ho5 hb5 hg5 hat5)
              go_roundg (n - (i + 1))
              case measure => have := HIN.out; omega
              case rel => exact ⟨i + 1, { G with sy := G.sy ++ [y] }, A9, c9, A2, c2, A3, c3, HIN.out, Nat.le_refl _, rfl, rfl, by rw [HKZ.out], ⟨HSTEP.out.trans HGO.out⟩, ⟨by show (G.sy ++ [y]).length + G.fs.length = i + 1; have := (HN.out).1; rw [List.length_append, List.length_singleton]; omega, (HN.out).2⟩, HF9⟩
            | some v0 =>
              rw [qm] at hl
              simp only [if_true] at hl
              unfold ki at hl
              have HKE := Aside0.mk (nmE_keep qm)
              rw [← HSN.out] at HKE
              clear qm
              go_quiet (fail)
              have HF8 := (HF6.out).below (pw_below_drewN (Below.refl w6.heap.size w6) nq)
              rw [HKE.out] at HF8
              have HF8 := Aside0.mk HF8
              have HX8 := Aside0.mk (blk_below HX6.out (pw_below_drewN (Below.refl w6.heap.size w6) nq))
              clear HF6 HX6 hq1 x0 hl HKE
              generalize w6.drewN nq = W8 at *
              have HLE7 := Aside0.mk (show (G.sy.length + 1) * 24 ≤ 140737488355328 by have := HSL.out; omega)
              have d0 := (HF8.out).g.cells.1
              have x0 : W8.cell? ⟨by_, 0, none⟩ = some (.string y.f0) := (blk_cell HX8.out 0).trans rfl
              have x1 : W8.cell? ⟨by_, 1, none⟩ = some (.int .i64 y.f1) := (blk_cell HX8.out 1).trans rfl
              clear HX8
              go_wp2_with ((with_reducible refine gate_builtin (b := .append) (xs := #[.tmp 95, .tmp 97]) rfl ?_); at_builtin; refine Kd.R_append k71 (w0 := w) w.heap.size rfl (.tmp 95) (.tmp 97) 22 71 (.agg #[.string ⟨#[]⟩, .int .i64 0]) 24 rfl Tryz.underlying22 Q.info71 rfl (show 0 < 2 by decide) (by decide) (.slice A1 G.sy.length c1) G.sy y [.string y.f0, .int .i64 y.f1] (fun k => B + 1 + 1 < k) (fun _ => False) rfl rfl (Q.k71_mkM _ _ _ y) (fun _ hk => hk.elim) (fun k hk => Nat.lt_of_lt_of_le (HF8.out).lt hk) (HF8.out).r1 (HF8.out).hb (HF8.out).hb.size HLE7.out ?_; intro v9 w9 ho5 hb5 hg5 hat5; (obtain ⟨A9, c9, rfl⟩ := Kd.R_slice ho5); have HF9 := Aside0.mk ((HF8.out).push1 ho5 hb5 hg5); have hGG := (HF8.out).g.grown hb5 hg5 (fun k hk => by have := (HF8.out).r1.1 k hk; have := (HF8.out).n; omega); have c6 := hGG.cells.1; have f6 := hGG.frozen.1; clear hGG ho5 hb5 hg5 hat5)
              go_roundg (n - (i + 1))
              case measure => have := HIN.out; omega
              case rel => exact ⟨i + 1, { G with sy := G.sy ++ [y] }, A9, c9, A2, c2, A3, c3, HIN.out, Nat.le_refl _, rfl, rfl, by rw [HKZ.out], ⟨HSTEP.out.trans HGO.out⟩, ⟨by show (G.sy ++ [y]).length + G.fs.length = i + 1; have := (HN.out).1; rw [List.length_append, List.length_singleton]; omega, (HN.out).2⟩, HF9⟩
      all_goals
        have HLN := Aside0.mk (lnStep_fun0 (g := G) (s := s) (by first | exact fun x => hfz x.2 | exact fun x => by rw [q1] at x; exact Bool.false_ne_true x.1))
        have HP2 := Aside0.mk (fun (W1 : World) => Tryz.strings_CutPrefix s ⟨#[102, 117, 110, 32]⟩ W1)
        rw [show (ByteArray.mk #[102, 117, 110, 32]).data.toList = pFun from rfl] at HP2
        try (have hfzz : ((G.fs.length : Int) == 0) = false := by simpa using hfz)
        have HTL := Aside0.mk (show (Lib.trimPrefix s.data.toList pFun).length ≤ 65536 from by have := trim_len s.data.toList pFun; rw [← Lib.size_eq] at this; have := HSB.out; have := HSZ.out; omega)
        unfold lnFun at HLN
        go_wp2_with fail
        refine (HP2.out _).mono ?_
        rintro E w5 ⟨rfl, hw⟩
        subst hw
        clear HP1 HP2 q1
        try clear hfzz
        try clear hfz
        generalize Lib.trimPrefix s.data.toList pFun = l0 at *
        generalize Lib.hasPrefix s.data.toList pFun = b0 at *
        have HC1 := Aside0.mk (cut_calls ⟨l0.toArray⟩ ⟨#[32, 58, 32]⟩ w5 (by show l0.toArray.size ≤ 70000; rw [List.size_toArray]; have := HTL.out; omega) ((HM.out).below (HF.out).hb))
        rw [show (ByteArray.mk l0.toArray).data.toList = l0 from rfl, show (ByteArray.mk #[32, 58, 32]).data.toList = [32, 58, 32] from rfl] at HC1
        have HC1S := Aside0.mk (cut_size l0 [32, 58, 32])
        clear hk g1
        generalize (Lib.cut l0 [32, 58, 32]).2.2 = b1 at *
        generalize (Lib.cut l0 [32, 58, 32]).2.1 = l1 at *
        generalize (Lib.cut l0 [32, 58, 32]).1 = n0 at *
        go_wp2_with fail
        refine (HC1.out).mono ?_
        rintro E w6 ⟨rfl, hb⟩
        have HF6 := Aside0.mk ((HF.out).below hb)
        clear hb HF HC1
        have HC2 := Aside0.mk (cut_calls ⟨l1.toArray⟩ ⟨#[32, 61, 32]⟩ w6 (by show l1.toArray.size ≤ 70000; rw [List.size_toArray]; have := HTL.out; have := HC1S.out; omega) ((HM.out).below (HF6.out).hb))
        rw [show (ByteArray.mk l1.toArray).data.toList = l1 from rfl, show (ByteArray.mk #[32, 61, 32]).data.toList = [32, 61, 32] from rfl] at HC2
        have HC2S := Aside0.mk (cut_size l1 [32, 61, 32])
        generalize (Lib.cut l1 [32, 61, 32]).2.2 = b2 at *
        generalize (Lib.cut l1 [32, 61, 32]).2.1 = l2 at *
        generalize (Lib.cut l1 [32, 61, 32]).1 = so at *
        have HZO := Aside0.mk (show (ByteArray.mk so.toArray).size ≤ 65536 from by show so.toArray.size ≤ 65536; rw [List.size_toArray]; have := HTL.out; have := (HC1S.out).2; have := (HC2S.out).1; omega)
        have HZN := Aside0.mk (show (ByteArray.mk n0.toArray).size ≤ 65536 from by show n0.toArray.size ≤ 65536; rw [List.size_toArray]; have := HTL.out; have := (HC1S.out).1; omega)
        clear HTL HC1S HC2S
        go_wp2_with fail
        refine (HC2.out).mono ?_
        rintro E w7 ⟨rfl, hb⟩
        have HF7 := Aside0.mk ((HF6.out).below hb)
        clear hb HF6 HC2
        generalize (ByteArray.mk n0.toArray) = nm at *
        generalize (ByteArray.mk so.toArray) = sb at *
        generalize (ByteArray.mk l2.toArray) = bt2 at *
        cases b0 with
        | false =>
          have HX := Aside0.mk (HBAD.out (by rw [HLN.out, if_neg (fun x => Bool.false_ne_true x.1)]))
          go_wp2
          exact get3_panic HX.out (HF7.out).g _ rfl rfl
        | true =>
        cases b1 with
        | false =>
          have HX := Aside0.mk (HBAD.out (by rw [HLN.out, if_neg (fun x => Bool.false_ne_true x.2.1)]))
          go_wp2
          exact get3_panic HX.out (HF7.out).g _ rfl rfl
        | true =>
        cases b2 with
        | false =>
          have HX := Aside0.mk (HBAD.out (by rw [HLN.out, if_neg (fun x => Bool.false_ne_true x.2.2.1)]))
          go_wp2
          exact get3_panic HX.out (HF7.out).g _ rfl rfl
        | true =>
        have HNM := Aside0.mk (name_calls nm w7)
        go_wp2_with fail
        refine (HNM.out).mono ?_
        rintro E w8 ⟨rfl, hb⟩
        have HF8 := Aside0.mk ((HF7.out).below hb)
        clear hb HF7 HNM
        cases qn : nameB nm with
        | false =>
          have HX := Aside0.mk (HBAD.out (by rw [HLN.out, if_neg (fun x => by rw [qn] at x; exact Bool.false_ne_true x.2.2.2)]))
          clear qn
          go_wp2
          exact get3_panic HX.out (HF8.out).g _ rfl rfl
        | true =>
        have HLN2 := Aside0.mk (show lnStep G s = (if (getSR sb).1 = 4 then none else some { sy := G.sy, fs := G.fs ++ [⟨nm, (getSR sb).2, ⟨0, 0, []⟩⟩], bo := G.bo ++ [bt2], large := G.large || decide ((getSR sb).1 ≠ 0) }) by rw [HLN.out, if_pos ⟨by first | trivial | rfl, by first | trivial | rfl, by first | trivial | rfl, qn⟩])
        clear HLN qn
        have HGS := Aside0.mk (gets_calls sb w8)
        unfold GetSE at HGS
        generalize (getSR sb).1 = er at *
        generalize (getSR sb).2 = srt at *
        go_wp2_with fail
        refine (HGS.out).mono ?_
        rintro E w9 ⟨A9, c9, rfl, hR, hb⟩
        have HF9 := Aside0.mk ((HF8.out).below hb)
        have HR9 := Aside0.mk (Kd.R_new' hR (Kd.R_lt (HF8.out).r2))
        have HSZ8 := Aside0.mk (show B + 1 + 1 < w8.heap.size ∧ w.heap.size ≤ w8.heap.size from ⟨(HF8.out).lt, (HF8.out).hb.size⟩)
        have HSZ9 := Aside0.mk hb.size
        clear hb hR HF8 HGS
        go_upto_region 26 with (fail)
        have bx := below_alloc (Below.refl w9.heap.size w9) (.cells #[.slice A9 srt.f0.length c9] 47)
        have HX10 := Aside0.mk (blk_new w9 (.cells #[.slice A9 srt.f0.length c9] 47))
        have HF10 := Aside0.mk ((HF9.out).below bx)
        have HR10 := Aside0.mk (Kd.R_lower (base' := w.heap.size) (Kd.R_mono (ok' := fun k => B + 1 + 1 < k ∧ some k ≠ (Value.slice A2 G.fs.length c2).ownBlock) (Kd.R_below HR9.out bx) (fun k hk => ⟨by have := HSZ8.out; omega, hk.2⟩)) (HSZ8.out).2)
        have HBX := Aside0.mk (show B + 1 + 1 < w9.heap.size from by have := HSZ8.out; have := HSZ9.out; omega)
        clear bx HF9 HR9 HSZ8 HSZ9
        generalize (w9.alloc (.cells #[.slice A9 srt.f0.length c9] 47)) = w10 at *
        generalize w9.heap.size = bx at *
        by_cases h4 : er = 4
        · have HX := Aside0.mk (HBAD.out (by rw [HLN2.out, if_pos h4]))
          subst h4
          go_wp2
          exact get3_panic HX.out (HF10.out).g _ rfl rfl
        · have HGO := Aside0.mk (HLN2.out.trans (if_neg h4))
          have h4z : (er == 4) = false := by simpa using h4
          have HFSL := Aside0.mk (show G.fs.length ≤ 70000 from by have := (HN.out).1; have := HLS.out; have := HIN.out; omega)
          clear HLN2 HBAD
          go_upto_region 28 with (fail)
          clear h4 h4z
          generalize hlv : (G.large || decide (er ≠ 0)) = lg at *
          have HLG := Aside0.mk hlv
          clear hlv
          go_cut [7] from 57 to 178 (fun v7 wx => v7 = .bool lg ∧ wx = w10)
          case first =>
            cases hlg : G.large with
            | true =>
              go_wp2
              go_meet
              exact ⟨by rw [← HLG.out, hlg]; rfl, rfl⟩
            | false =>
              by_cases h0 : er = 0
              · subst h0
                go_wp2
                go_meet
                exact ⟨by rw [← HLG.out, hlg]; rfl, rfl⟩
              · have h0z : (er == 0) = false := by simpa using h0
                have h0y : (er != 0) = true := by simpa using h0
                go_wp2
                go_meet
                exact ⟨by rw [← HLG.out, hlg, decide_eq_true h0]; rfl, rfl⟩
          case rest =>
          obtain ⟨e7, ew⟩ := hcut
          replace ew := ew.symm
          subst ew
          subst e7
          have hq1 := (HF10.out).rt.cells.2.2
          have HDOM := Aside0.mk (show sdom nm from by unfold sdom maxLen; have := HZN.out; omega)
          have hl : (Instr.lookup 90 (.map (some (B + 1))) (.string nm) true).run Tryz.prog w10 = .ok (.tuple #[.int .i64 ((mget nm (nmE (G.fs.map (·.f0)))).getD 0), .bool (mget nm (nmE (G.fs.map (·.f0)))).isSome]) w10 := by
            have h := MapIs.look (HF10.out).m2 keyStr Tryz.underlying90 (zero3 w10) HDOM.out true
            rw [h]
            cases mget nm (nmE (G.fs.map (·.f0))) with
            | none => rfl
            | some v => rfl
          have HQN := Aside0.mk (fun (h : (mget nm (nmE (G.fs.map (·.f0)))).isSome = false) => (show mget nm (nmE (G.fs.map (·.f0))) = none from by cases e : mget nm (nmE (G.fs.map (·.f0))) with | none => rfl | some v => rw [e] at h; cases h))
          have HQS := Aside0.mk (fun (h : (mget nm (nmE (G.fs.map (·.f0)))).isSome = true) => (show ∃ v, mget nm (nmE (G.fs.map (·.f0))) = some v from Option.isSome_iff_exists.1 h))
          generalize (mget nm (nmE (G.fs.map (·.f0)))).isSome = bs at *
          generalize (mget nm (nmE (G.fs.map (·.f0)))).getD 0 = vs at *
          have HSN := Aside0.mk (show (G.fs ++ [(⟨nm, srt, ⟨0, 0, []⟩⟩ : S52)]).map (·.f0) = G.fs.map (·.f0) ++ [nm] by simp)
          go_upto_if 158 with (fail)
          clear hq1 hl
          have HF11 := HF10
          have HX11 := HX10
          have HR11 := HR10
          clear HF10 HX10 HR10
          generalize w10 = w11 at *
          go_cut [] from 57 to 178 (fun wx => Aside0 (FL w wx L bl B (B + 1) (B + 1 + 1) [] G.sy G.fs G.bo (nmE (G.sy.map (·.f0))) (nmE ((G.fs ++ [(⟨nm, srt, ⟨0, 0, []⟩⟩ : S52)]).map (·.f0))) A1 c1 A2 c2 A3 c3) ∧ Aside0 (wx.heap[bx]? = some (.cells #[.slice A9 srt.f0.length c9] 47 (0, 0))) ∧ Aside0 (Kd.R k47 47 wx w.heap.size (fun k => B + 1 + 1 < k ∧ some k ≠ (Value.slice A2 G.fs.length c2).ownBlock) (.slice A9 srt.f0.length c9) srt.f0))
          case first =>
            cases bs with
            | true =>
              obtain ⟨v, hv⟩ := HQS.out rfl
              have HKE := Aside0.mk (nmE_keep hv)
              rw [← HSN.out] at HKE
              have HF12 := HF11.out
              rw [HKE.out] at HF12
              have HF12 := Aside0.mk HF12
              clear hv
              go_wp2
              go_meet
              exact ⟨HF12, HX11, HR11⟩
            | false =>
              have HQM := Aside0.mk (HQN.out rfl)
              go_upto_region 31 with (fail)
              have hq1 := (HF11.out).rt.cells.2.2
              have d0 := (HF11.out).g.cells.2.1
              refine wp_region_still_tail 8 (by kernel_rfl) (by kernel_rfl) ?_
              simp only [List.take_succ_cons, List.take_zero, List.drop_succ_cons, List.drop_zero]
              repeat (refine wpStill_step (fun K hK => ?_); go_simp; refine hK _ ?_; clear hK K)
              refine wpStill_nil ?_
              change wpList _ _ _ _ _ w11.drew
              clear hq1 d0
              have HF7d := Aside0.mk ((HF11.out).below (below_drew (Below.refl _ _)))
              have HX7d := Aside0.mk (blk_below HX11.out (below_drew (Below.refl _ _)))
              have HR7d := Aside0.mk (Kd.R_below HR11.out (below_drew (Below.refl _ _)))
              clear HF11 HX11 HR11
              generalize w11.drew = w7d at *
              obtain ⟨W8, hput, hm8, hg8⟩ := MapIs.put (HF7d.out).m2 keyStr Tryz.underlying90 HDOM.out (G.fs.length : Int)
              rw [show (G.fs.length : Int) = ((G.fs.map (·.f0)).length : Int) by rw [List.length_map], nmE_put HQM.out, ← HSN.out] at hm8
              unfold ki at hput
              have HF8 := Aside0.mk ((HF7d.out).put2 hm8 hg8)
              have HX8 := Aside0.mk (blk_grown HX7d.out hg8 (fun e => by have := Option.some.inj e; have := HBX.out; omega))
              have HR8 := Aside0.mk (Kd.R_grown HR7d.out hg8 (fun k hk e => by have := Option.some.inj e; have := hk.1; omega))
              clear hm8 hg8 HF7d HX7d HR7d
              go_wp2
              go_meet
              exact ⟨HF8, HX8, HR8⟩
          case rest =>
          clear HF11 HX11 HR11 HQN HQS
          obtain ⟨HF12, HX12, HR12⟩ := hcut
          generalize wc = wx at *
          have x0 : wx.cell? ⟨bx, 0, none⟩ = some (.slice A9 srt.f0.length c9) := (blk_cell HX12.out 0).trans rfl
          have d1 := (HF12.out).g.cells.2.1
          have HLE7 := Aside0.mk (show (G.fs.length + 1) * 80 ≤ 140737488355328 by have := HFSL.out; omega)
          have HLE8 := Aside0.mk (show (G.bo.length + 1) * 16 ≤ 140737488355328 by have := HFSL.out; have := (HN.out).2; omega)
          have hbx0 := HBX.out
          clear HX12
          go_wp2_with (first
            | ((with_reducible refine gate_builtin (b := .append) (xs := #[.tmp 168, .tmp 172]) rfl ?_); at_builtin; refine Kd.R_append k52 (w0 := w) w.heap.size rfl (.tmp 168) (.tmp 172) 23 52 (.agg #[.string ⟨#[]⟩, .slice none 0 0, .int .i64 0, .int .i64 0, .slice none 0 0]) 80 rfl Tryz.underlying23 Q.info52 rfl (show 0 < 5 by decide) (by decide) (.slice A2 G.fs.length c2) G.fs ⟨nm, srt, ⟨0, 0, []⟩⟩ [.string nm, .slice A9 srt.f0.length c9, .int .i64 0, .int .i64 0, .slice none 0 0] (fun k => B + 1 + 1 < k) (fun k => B + 1 + 1 < k ∧ some k ≠ (Value.slice A2 G.fs.length c2).ownBlock) rfl rfl (Q.k52_mkM _ _ _ ⟨nm, srt, ⟨0, 0, []⟩⟩ HR12.out (Kd.R_nil _ _ _ _ _)) (fun _ hk => hk) (fun k hk => Nat.lt_of_lt_of_le (HF12.out).lt hk) (HF12.out).r2 (HF12.out).hb (HF12.out).hb.size HLE7.out ?_; intro v13 w13 ho5 hb5 hg5 hat5; (obtain ⟨A5, c5, rfl⟩ := Kd.R_slice ho5); have HF13 := Aside0.mk ((HF12.out).push2 ho5 hb5 hg5); have hGG := (HF12.out).g.grown hb5 hg5 (fun k hk => by have := (HF12.out).r2.1 k hk; have := (HF12.out).n; omega); have c6 := hGG.cells.2.1; have f6 := hGG.frozen.2.1; clear hGG ho5 hb5 hg5 hat5)
            | ((with_reducible refine gate_builtin (b := .append) (xs := #[.tmp 175, .tmp 177]) rfl ?_); at_builtin; refine Kd.R_append Kd.string (w0 := w) w.heap.size rfl (.tmp 175) (.tmp 177) 87 9 (.string ⟨#[]⟩) 16 rfl Tryz.underlying87 info9 rfl (show 0 < 1 by decide) (by decide) (.slice A3 G.bo.length c3) G.bo bt2 [.string bt2] (fun k => B + 1 + 1 < k) (fun _ => False) rfl (by first | rfl | (show Value.slice (some ⟨w13.heap.size, 0, none⟩) 1 1 = _; simp; done) | (show Value.slice (some ⟨w13.heap.size, 0, none⟩) 1 1 = _; simp [World.setCell]; done)) rfl (fun _ hk => hk.elim) (fun k hk => Nat.lt_of_lt_of_le (HF13.out).lt hk) (HF13.out).r3 (HF13.out).hb (HF13.out).hb.size HLE8.out ?_; intro v15 w15 ho5 hb5 hg5 hat5; (obtain ⟨A6, c6, rfl⟩ := Kd.R_slice ho5); have HF15 := Aside0.mk ((HF13.out).push3 ho5 hb5 hg5); clear ho5 hb5 hg5 hat5)
            | fail)
          go_roundg (n - (i + 1))
          case measure => have := HIN.out; omega
          case rel => exact ⟨i + 1, { sy := G.sy, fs := G.fs ++ [⟨nm, srt, ⟨0, 0, []⟩⟩], bo := G.bo ++ [bt2], large := lg }, A1, c1, A5, c5, A6, c6, HIN.out, Nat.le_refl _, by show _ = Value.slice A6 (G.bo ++ [bt2]).length c6; rw [List.length_append]; rfl, rfl, by rw [HKZ.out], ⟨HSTEP.out.trans HGO.out⟩, ⟨by show G.sy.length + (G.fs ++ [_]).length = i + 1; have := (HN.out).1; rw [List.length_append, List.length_singleton]; omega, by show (G.bo ++ [bt2]).length = (G.fs ++ [_]).length; have := (HN.out).2; rw [List.length_append, List.length_append, List.length_singleton, List.length_singleton]; omega⟩, HF15⟩
    · obtain rfl : n = i := by omega
      have HVV := Aside0.mk (HV3.out HLE.out G HG.out)
      have HLS2 := Aside0.mk (show G.bo.length ≤ 70000 from by have := (HN.out).1; have := (HN.out).2; have := HLS.out; omega)
      have HNB := Aside0.mk (HN.out).2
      have HBZ := Aside0.mk (lnAll_bo (m := 65536) _ _ _ (fun s hs => by
        obtain ⟨q, hq, rfl⟩ := List.getElem_of_mem (List.mem_of_mem_take hs)
        have h1 := HCS.out q
        rw [List.getD_eq_getElem?_getD, List.getElem?_eq_getElem hq] at h1
        have := HSZ.out
        simp only [Option.getD_some] at h1
        omega) (by simp) HG.out)
      clear HV1 HV2 HV3 HG HN hi hgg hlt HCS HLEE HLE HLL HLT hmf
      go_wp2
      go_loopg [182] G.bo.length (fun gg v182 wi => ∃ (j : Nat) (dn : List S52), j ≤ G.bo.length ∧ G.bo.length - j ≤ gg ∧ v182 = .int .i64 j ∧ Aside0 (dn.length = j) ∧ Aside0 (boAll (nmE (G.sy.map (·.f0))) (nmE (G.fs.map (·.f0))) G.fs G.bo = (boAll (nmE (G.sy.map (·.f0))) (nmE (G.fs.map (·.f0))) (G.fs.drop j) (G.bo.drop j)).map (dn ++ ·)) ∧ Aside0 (FL w wi L bl B (B + 1) (B + 1 + 1) [] G.sy (dn ++ G.fs.drop j) G.bo (nmE (G.sy.map (·.f0))) (nmE (G.fs.map (·.f0))) A1 c1 A2 c2 A3 c3))
      case atStart => exact ⟨0, [], Nat.zero_le _, Nat.le_refl _, rfl, ⟨rfl⟩, ⟨by simp⟩, HF⟩
      case round =>
        clear HF
        obtain ⟨j, dn, hj, hgg, rfl, HDN, HBO, HF⟩ := hrel
        by_cases hlt : j < G.bo.length
        · have hltz : (j : Int) < (G.bo.length : Int) := by omega
          have HLT := Aside0.mk hlt
          have HNX := Aside0.mk (boAll_next (e1 := nmE (G.sy.map (·.f0))) (e2 := nmE (G.fs.map (·.f0))) hlt HNB.out HDN.out)
          have HSX := Aside0.mk (fun x => set_next (fs := G.fs) HDN.out (by have := HNB.out; omega) x)
          have HGX := Aside0.mk (get_next (fs := G.fs) HDN.out (by have := HNB.out; omega))
          have HFLN := Aside0.mk (show (dn ++ G.fs.drop j).length = G.fs.length by have := HDN.out; have := HNB.out; rw [List.length_append, List.length_drop]; omega)
          have HKZ := Aside0.mk (show wrap64 ((j : Int) + 1) = ((j + 1 : Nat) : Int) by rw [wr_id (by omega) (by have := HLS2.out; omega)]; rfl)
          have HBS := Aside0.mk (show (G.bo.getD j ByteArray.empty).size ≤ 65536 from (HBZ.out) _ (by rw [List.getD_eq_getElem?_getD, List.getElem?_eq_getElem hlt]; exact List.getElem_mem hlt))
          obtain ⟨g3, cap3, e3, _⟩ := Kd.R_form (HF.out).r3 (show 0 < G.bo.length by omega)
          injection e3 with e31 _ e33
          subst e31
          subst e33
          have hk : wr.cell? ⟨g3, j, none⟩ = some (.string (G.bo.getD j ByteArray.empty)) := (Kd.R_celln ByteArray.empty (HF.out).r3 (j : Int) (by omega) hltz).1
          generalize G.bo.getD j ByteArray.empty = bj at *
          have hdl : 0 < (dn ++ G.fs.drop j).length := by have := HFLN.out; have := HNB.out; omega
          obtain ⟨g2, cap2, e2, _⟩ := Kd.R_form (HF.out).r2 hdl
          injection e2 with e21 _ e23
          subst e21
          subst e23
          generalize hF0 : dn ++ G.fs.drop j = F at *
          have hb0 := (HF.out).rt.cells.1.1
          have hb1 := (HF.out).rt.cells.1.2
          go_upto_region 39 with (fail)
          have HF2 := Aside0.mk ((HF.out).setT bj)
          clear hb0 hb1 hk hdl HF
          generalize wr.setCell ⟨B + 1 + 1, 0, none⟩ (.string bj) = w5 at *
          have hd := below_drew (Below.refl w5.heap.size w5)
          have HFD := Aside0.mk ((HF2.out).below hd)
          have HTM := Aside0.mk (rtm_calls (B + 1 + 1) B (B + 1) (nmE (G.sy.map (·.f0))) (nmE (G.fs.map (·.f0))) 70000 bj.data.toList w5.drew (by rw [← Lib.size_eq]; have := HBS.out; omega) (Nat.le_refl _) (HFD.out).rm)
          have HOLD := Aside0.mk (HF2.out).g.cells.2.1
          cases qt : tmR (nmE (G.sy.map (·.f0))) (nmE (G.fs.map (·.f0))) bj.data.toList with
          | none =>
            have HX := Aside0.mk (getR3_bad HSZ.out (HVV.out.trans (by rw [HBO.out, HNX.out, qt]; rfl)))
            have HC := Aside0.mk ((HTM.out).mono (R' := fun E w' => E = pwrong ∧ KR (B + 1 + 1) w5.drew w') (fun E w' hE => by
              obtain ⟨hk, ⟨_, rfl⟩ | ⟨t4, r4, v4, hv, _⟩⟩ := hE
              · exact ⟨rfl, hk⟩
              · rw [qt] at hv; cases hv))
            clear qt HTM
            unfold pwrong at HC
            have d1 := (HF2.out).g.cells.2.1
            have d2 := pw_cell_below hd d1
            clear hd
            refine wp_region_any (by kernel_rfl) ?_
            change wpAny _ _ _ _ _ _ _ (World.drew _)
            refine wpAny_ready (rs := [0, 2, 3]) (by kernel_rfl) (by simp) ?_
            refine AllReady.cons rfl (fun K hK => ?_) ?_
            · go_simp
              refine hK _ _ ?_
              clear hK K
              refine wpAny_ready (rs := [1, 2, 3]) (by kernel_rfl) (by simp) ?_
              refine AllReady.cons rfl (fun K hK => ?_) ?_
              · go_simp
                refine hK _ _ ?_
                clear hK K
                refine wpAny_ready (rs := [2, 3]) (by kernel_rfl) (by simp) ?_
                refine AllReady.cons rfl (fun K hK => ?_) ?_
                · go_simp
                  refine hK _ _ ?_
                  clear hK K
                  refine wpAny_ready (rs := [3]) (by kernel_rfl) (by simp) ?_
                  refine AllReady.cons rfl (fun K hK => ?_) ?_
                  · go_simp
                    refine hK _ _ ?_
                    clear hK K
                    refine wpAny_ready (rs := [4]) (by kernel_rfl) (by simp) ?_
                    refine AllReady.cons rfl (fun K hK => ?_) ?_
                    · go_simp
                      go_wp2_with (go_at_call 60; refine (HC.out).mono ?_; rintro E w8 ⟨rfl, hk⟩; exact get3_panic HX.out ((HFD.out).gone hk) _ rfl rfl)
                    exact AllReady.nil
                  exact AllReady.nil
                refine AllReady.cons rfl (fun K hK => ?_) ?_
                · go_simp
                  refine hK _ _ ?_
                  clear hK K
                  refine wpAny_ready (rs := [2, 4]) (by kernel_rfl) (by simp) ?_
                  refine AllReady.cons rfl (fun K hK => ?_) ?_
                  · go_simp
                    refine hK _ _ ?_
                    clear hK K
                    refine wpAny_ready (rs := [4]) (by kernel_rfl) (by simp) ?_
                    refine AllReady.cons rfl (fun K hK => ?_) ?_
                    · go_simp
                      go_wp2_with (go_at_call 60; refine (HC.out).mono ?_; rintro E w8 ⟨rfl, hk⟩; exact get3_panic HX.out ((HFD.out).gone hk) _ rfl rfl)
                    exact AllReady.nil
                  refine AllReady.cons rfl (fun K hK => ?_) ?_
                  · go_simp
                    go_wp2_with (go_at_call 60; refine (HC.out).mono ?_; rintro E w8 ⟨rfl, hk⟩; exact get3_panic HX.out ((HFD.out).gone hk) _ rfl rfl)
                  exact AllReady.nil
                exact AllReady.nil
              refine AllReady.cons rfl (fun K hK => ?_) ?_
              · go_simp
                refine hK _ _ ?_
                clear hK K
                refine wpAny_ready (rs := [1, 3]) (by kernel_rfl) (by simp) ?_
                refine AllReady.cons rfl (fun K hK => ?_) ?_
                · go_simp
                  refine hK _ _ ?_
                  clear hK K
                  refine wpAny_ready (rs := [3]) (by kernel_rfl) (by simp) ?_
                  refine AllReady.cons rfl (fun K hK => ?_) ?_
                  · go_simp
                    refine hK _ _ ?_
                    clear hK K
                    refine wpAny_ready (rs := [4]) (by kernel_rfl) (by simp) ?_
                    refine AllReady.cons rfl (fun K hK => ?_) ?_
                    · go_simp
                      go_wp2_with (go_at_call 60; refine (HC.out).mono ?_; rintro E w8 ⟨rfl, hk⟩; exact get3_panic HX.out ((HFD.out).gone hk) _ rfl rfl)
                    exact AllReady.nil
                  exact AllReady.nil
                refine AllReady.cons rfl (fun K hK => ?_) ?_
                · go_simp
                  refine hK _ _ ?_
                  clear hK K
                  refine wpAny_ready (rs := [1, 4]) (by kernel_rfl) (by simp) ?_
                  refine AllReady.cons rfl (fun K hK => ?_) ?_
                  · go_simp
                    refine hK _ _ ?_
                    clear hK K
                    refine wpAny_ready (rs := [4]) (by kernel_rfl) (by simp) ?_
                    refine AllReady.cons rfl (fun K hK => ?_) ?_
                    · go_simp
                      go_wp2_with (go_at_call 60; refine (HC.out).mono ?_; rintro E w8 ⟨rfl, hk⟩; exact get3_panic HX.out ((HFD.out).gone hk) _ rfl rfl)
                    exact AllReady.nil
                  refine AllReady.cons rfl (fun K hK => ?_) ?_
                  · go_simp
                    go_wp2_with (go_at_call 60; refine (HC.out).mono ?_; rintro E w8 ⟨rfl, hk⟩; exact get3_panic HX.out ((HFD.out).gone hk) _ rfl rfl)
                  exact AllReady.nil
                exact AllReady.nil
              refine AllReady.cons rfl (fun K hK => ?_) ?_
              · go_simp
                refine hK _ _ ?_
                clear hK K
                refine wpAny_ready (rs := [1, 2, 4]) (by kernel_rfl) (by simp) ?_
                refine AllReady.cons rfl (fun K hK => ?_) ?_
                · go_simp
                  refine hK _ _ ?_
                  clear hK K
                  refine wpAny_ready (rs := [2, 4]) (by kernel_rfl) (by simp) ?_
                  refine AllReady.cons rfl (fun K hK => ?_) ?_
                  · go_simp
                    refine hK _ _ ?_
                    clear hK K
                    refine wpAny_ready (rs := [4]) (by kernel_rfl) (by simp) ?_
                    refine AllReady.cons rfl (fun K hK => ?_) ?_
                    · go_simp
                      go_wp2_with (go_at_call 60; refine (HC.out).mono ?_; rintro E w8 ⟨rfl, hk⟩; exact get3_panic HX.out ((HFD.out).gone hk) _ rfl rfl)
                    exact AllReady.nil
                  refine AllReady.cons rfl (fun K hK => ?_) ?_
                  · go_simp
                    go_wp2_with (go_at_call 60; refine (HC.out).mono ?_; rintro E w8 ⟨rfl, hk⟩; exact get3_panic HX.out ((HFD.out).gone hk) _ rfl rfl)
                  exact AllReady.nil
                refine AllReady.cons rfl (fun K hK => ?_) ?_
                · go_simp
                  refine hK _ _ ?_
                  clear hK K
                  refine wpAny_ready (rs := [1, 4]) (by kernel_rfl) (by simp) ?_
                  refine AllReady.cons rfl (fun K hK => ?_) ?_
                  · go_simp
                    refine hK _ _ ?_
                    clear hK K
                    refine wpAny_ready (rs := [4]) (by kernel_rfl) (by simp) ?_
                    refine AllReady.cons rfl (fun K hK => ?_) ?_
                    · go_simp
                      go_wp2_with (go_at_call 60; refine (HC.out).mono ?_; rintro E w8 ⟨rfl, hk⟩; exact get3_panic HX.out ((HFD.out).gone hk) _ rfl rfl)
                    exact AllReady.nil
                  refine AllReady.cons rfl (fun K hK => ?_) ?_
                  · go_simp
                    go_wp2_with (go_at_call 60; refine (HC.out).mono ?_; rintro E w8 ⟨rfl, hk⟩; exact get3_panic HX.out ((HFD.out).gone hk) _ rfl rfl)
                  exact AllReady.nil
                refine AllReady.cons rfl (fun K hK => ?_) ?_
                · go_simp
                  go_wp2_with (go_at_call 60; refine (HC.out).mono ?_; rintro E w8 ⟨rfl, hk⟩; exact get3_panic HX.out ((HFD.out).gone hk) _ rfl rfl)
                exact AllReady.nil
              exact AllReady.nil
            refine AllReady.cons rfl (fun K hK => ?_) ?_
            · go_simp
              refine hK _ _ ?_
              clear hK K
              refine wpAny_ready (rs := [0, 3]) (by kernel_rfl) (by simp) ?_
              refine AllReady.cons rfl (fun K hK => ?_) ?_
              · go_simp
                refine hK _ _ ?_
                clear hK K
                refine wpAny_ready (rs := [1, 3]) (by kernel_rfl) (by simp) ?_
                refine AllReady.cons rfl (fun K hK => ?_) ?_
                · go_simp
                  refine hK _ _ ?_
                  clear hK K
                  refine wpAny_ready (rs := [3]) (by kernel_rfl) (by simp) ?_
                  refine AllReady.cons rfl (fun K hK => ?_) ?_
                  · go_simp
                    refine hK _ _ ?_
                    clear hK K
                    refine wpAny_ready (rs := [4]) (by kernel_rfl) (by simp) ?_
                    refine AllReady.cons rfl (fun K hK => ?_) ?_
                    · go_simp
                      go_wp2_with (go_at_call 60; refine (HC.out).mono ?_; rintro E w8 ⟨rfl, hk⟩; exact get3_panic HX.out ((HFD.out).gone hk) _ rfl rfl)
                    exact AllReady.nil
                  exact AllReady.nil
                refine AllReady.cons rfl (fun K hK => ?_) ?_
                · go_simp
                  refine hK _ _ ?_
                  clear hK K
                  refine wpAny_ready (rs := [1, 4]) (by kernel_rfl) (by simp) ?_
                  refine AllReady.cons rfl (fun K hK => ?_) ?_
                  · go_simp
                    refine hK _ _ ?_
                    clear hK K
                    refine wpAny_ready (rs := [4]) (by kernel_rfl) (by simp) ?_
                    refine AllReady.cons rfl (fun K hK => ?_) ?_
                    · go_simp
                      go_wp2_with (go_at_call 60; refine (HC.out).mono ?_; rintro E w8 ⟨rfl, hk⟩; exact get3_panic HX.out ((HFD.out).gone hk) _ rfl rfl)
                    exact AllReady.nil
                  refine AllReady.cons rfl (fun K hK => ?_) ?_
                  · go_simp
                    go_wp2_with (go_at_call 60; refine (HC.out).mono ?_; rintro E w8 ⟨rfl, hk⟩; exact get3_panic HX.out ((HFD.out).gone hk) _ rfl rfl)
                  exact AllReady.nil
                exact AllReady.nil
              refine AllReady.cons rfl (fun K hK => ?_) ?_
              · go_simp
                refine hK _ _ ?_
                clear hK K
                refine wpAny_ready (rs := [0, 4]) (by kernel_rfl) (by simp) ?_
                refine AllReady.cons rfl (fun K hK => ?_) ?_
                · go_simp
                  refine hK _ _ ?_
                  clear hK K
                  refine wpAny_ready (rs := [1, 4]) (by kernel_rfl) (by simp) ?_
                  refine AllReady.cons rfl (fun K hK => ?_) ?_
                  · go_simp
                    refine hK _ _ ?_
                    clear hK K
                    refine wpAny_ready (rs := [4]) (by kernel_rfl) (by simp) ?_
                    refine AllReady.cons rfl (fun K hK => ?_) ?_
                    · go_simp
                      go_wp2_with (go_at_call 60; refine (HC.out).mono ?_; rintro E w8 ⟨rfl, hk⟩; exact get3_panic HX.out ((HFD.out).gone hk) _ rfl rfl)
                    exact AllReady.nil
                  refine AllReady.cons rfl (fun K hK => ?_) ?_
                  · go_simp
                    go_wp2_with (go_at_call 60; refine (HC.out).mono ?_; rintro E w8 ⟨rfl, hk⟩; exact get3_panic HX.out ((HFD.out).gone hk) _ rfl rfl)
                  exact AllReady.nil
                refine AllReady.cons rfl (fun K hK => ?_) ?_
                · go_simp
                  go_wp2_with (go_at_call 60; refine (HC.out).mono ?_; rintro E w8 ⟨rfl, hk⟩; exact get3_panic HX.out ((HFD.out).gone hk) _ rfl rfl)
                exact AllReady.nil
              exact AllReady.nil
            refine AllReady.cons rfl (fun K hK => ?_) ?_
            · go_simp
              refine hK _ _ ?_
              clear hK K
              refine wpAny_ready (rs := [0, 2, 4]) (by kernel_rfl) (by simp) ?_
              refine AllReady.cons rfl (fun K hK => ?_) ?_
              · go_simp
                refine hK _ _ ?_
                clear hK K
                refine wpAny_ready (rs := [1, 2, 4]) (by kernel_rfl) (by simp) ?_
                refine AllReady.cons rfl (fun K hK => ?_) ?_
                · go_simp
                  refine hK _ _ ?_
                  clear hK K
                  refine wpAny_ready (rs := [2, 4]) (by kernel_rfl) (by simp) ?_
                  refine AllReady.cons rfl (fun K hK => ?_) ?_
                  · go_simp
                    refine hK _ _ ?_
                    clear hK K
                    refine wpAny_ready (rs := [4]) (by kernel_rfl) (by simp) ?_
                    refine AllReady.cons rfl (fun K hK => ?_) ?_
                    · go_simp
                      go_wp2_with (go_at_call 60; refine (HC.out).mono ?_; rintro E w8 ⟨rfl, hk⟩; exact get3_panic HX.out ((HFD.out).gone hk) _ rfl rfl)
                    exact AllReady.nil
                  refine AllReady.cons rfl (fun K hK => ?_) ?_
                  · go_simp
                    go_wp2_with (go_at_call 60; refine (HC.out).mono ?_; rintro E w8 ⟨rfl, hk⟩; exact get3_panic HX.out ((HFD.out).gone hk) _ rfl rfl)
                  exact AllReady.nil
                refine AllReady.cons rfl (fun K hK => ?_) ?_
                · go_simp
                  refine hK _ _ ?_
                  clear hK K
                  refine wpAny_ready (rs := [1, 4]) (by kernel_rfl) (by simp) ?_
                  refine AllReady.cons rfl (fun K hK => ?_) ?_
                  · go_simp
                    refine hK _ _ ?_
                    clear hK K
                    refine wpAny_ready (rs := [4]) (by kernel_rfl) (by simp) ?_
                    refine AllReady.cons rfl (fun K hK => ?_) ?_
                    · go_simp
                      go_wp2_with (go_at_call 60; refine (HC.out).mono ?_; rintro E w8 ⟨rfl, hk⟩; exact get3_panic HX.out ((HFD.out).gone hk) _ rfl rfl)
                    exact AllReady.nil
                  refine AllReady.cons rfl (fun K hK => ?_) ?_
                  · go_simp
                    go_wp2_with (go_at_call 60; refine (HC.out).mono ?_; rintro E w8 ⟨rfl, hk⟩; exact get3_panic HX.out ((HFD.out).gone hk) _ rfl rfl)
                  exact AllReady.nil
                refine AllReady.cons rfl (fun K hK => ?_) ?_
                · go_simp
                  go_wp2_with (go_at_call 60; refine (HC.out).mono ?_; rintro E w8 ⟨rfl, hk⟩; exact get3_panic HX.out ((HFD.out).gone hk) _ rfl rfl)
                exact AllReady.nil
              refine AllReady.cons rfl (fun K hK => ?_) ?_
              · go_simp
                refine hK _ _ ?_
                clear hK K
                refine wpAny_ready (rs := [0, 4]) (by kernel_rfl) (by simp) ?_
                refine AllReady.cons rfl (fun K hK => ?_) ?_
                · go_simp
                  refine hK _ _ ?_
                  clear hK K
                  refine wpAny_ready (rs := [1, 4]) (by kernel_rfl) (by simp) ?_
                  refine AllReady.cons rfl (fun K hK => ?_) ?_
                  · go_simp
                    refine hK _ _ ?_
                    clear hK K
                    refine wpAny_ready (rs := [4]) (by kernel_rfl) (by simp) ?_
                    refine AllReady.cons rfl (fun K hK => ?_) ?_
                    · go_simp
                      go_wp2_with (go_at_call 60; refine (HC.out).mono ?_; rintro E w8 ⟨rfl, hk⟩; exact get3_panic HX.out ((HFD.out).gone hk) _ rfl rfl)
                    exact AllReady.nil
                  refine AllReady.cons rfl (fun K hK => ?_) ?_
                  · go_simp
                    go_wp2_with (go_at_call 60; refine (HC.out).mono ?_; rintro E w8 ⟨rfl, hk⟩; exact get3_panic HX.out ((HFD.out).gone hk) _ rfl rfl)
                  exact AllReady.nil
                refine AllReady.cons rfl (fun K hK => ?_) ?_
                · go_simp
                  go_wp2_with (go_at_call 60; refine (HC.out).mono ?_; rintro E w8 ⟨rfl, hk⟩; exact get3_panic HX.out ((HFD.out).gone hk) _ rfl rfl)
                exact AllReady.nil
              refine AllReady.cons rfl (fun K hK => ?_) ?_
              · go_simp
                go_wp2_with (go_at_call 60; refine (HC.out).mono ?_; rintro E w8 ⟨rfl, hk⟩; exact get3_panic HX.out ((HFD.out).gone hk) _ rfl rfl)
              exact AllReady.nil
            exact AllReady.nil
          | some p =>
            obtain ⟨tt, r⟩ := p
            rw [qt] at HNX
            have HC : Aside0 (Calls Tryz.prog 60 #[.pointer (some ⟨B + 1 + 1, 0, none⟩)] w5.drew fun E w' => ∃ A7 c7, E = .returned (.agg #[.int .i64 tt.f0, .int .i64 tt.f1, .slice A7 tt.f2.length c7]) ∧ Kd.R k50 50 w' w5.drew.heap.size (fun k => w5.drew.heap.size ≤ k) (.slice A7 tt.f2.length c7) tt.f2 ∧ RT (B + 1 + 1) r (.map (some B)) (.map (some (B + 1))) w' ∧ KR (B + 1 + 1) w5.drew w') := ⟨(HTM.out).mono fun E w' hE => by
              obtain ⟨hk, ⟨h0, _⟩ | ⟨t4, r4, v4, hv, rfl, hR, hr⟩⟩ := hE
              · rw [qt] at h0; cases h0
              · rw [qt] at hv
                cases hv
                obtain ⟨A7, c7, rfl⟩ := Kd.R_slice hR
                exact ⟨A7, c7, rfl, hR, hr, hk⟩⟩
            clear qt HTM
            have d1 := (HF2.out).g.cells.2.1
            have d2 := pw_cell_below hd d1
            have HGT := Aside0.mk (show B + 1 + 1 < w5.drew.heap.size ∧ w.heap.size ≤ w5.drew.heap.size from ⟨(HFD.out).lt, (HFD.out).hb.size⟩)
            have HJF := Aside0.mk (show j < F.length by have := HFLN.out; have := HNB.out; have := HLT.out; omega)
            have hjz : (j : Int) < (F.length : Int) := by have := HJF.out; omega
            clear hd
            refine wp_region_noPanic ?_
            go_region_law (first
              | (go_simp; go_at_call 60; refine (HC.out).mono ?_; rintro E w8 ⟨A7, c7, rfl, hR, hr, hk⟩; have HF8 := Aside0.mk ((HFD.out).call hk hr); have HR8 := Aside0.mk (Kd.R_lower (base' := w.heap.size) (Kd.R_mono (ok' := fun k => B + 1 + 1 < k ∧ k ≠ g2) (Kd.R_new' hR (Kd.R_lt (HFD.out).r2)) (fun k hk => ⟨by have := (HGT.out).1; omega, fun e => hk.2 (by rw [e]; rfl)⟩)) (HGT.out).2); have hbc := body_cells (HF8.out).r2 HJF.out; (obtain ⟨⟨x0, y0, z0, hx0, hy0, hz0⟩, fx0, fy0, fz0⟩ := hbc); have HRB := Aside0.mk (row_body (HF8.out).r2 HJF.out tt HR8.out (fun k hk => hk)); have d3 := (HF8.out).g.cells.2.1; clear hk hr hR)
              | fail)
            all_goals
              refine NoPanic.normal ?_
              rw [show ((w8.setCell ⟨g2, j * 5 + 2, none⟩ (.int .i64 tt.f0)).setCell ⟨g2, j * 5 + 2 + 1, none⟩ (.int .i64 tt.f1)).setCell ⟨g2, j * 5 + 2 + 2, none⟩ (.slice A7 tt.f2.length c7) = w8.setCells g2 (j * 5 + 2) [.int .i64 tt.f0, .int .i64 tt.f1, .slice A7 tt.f2.length c7] from rfl]
              have HFS := (HF8.out).stored (by rw [List.length_set]) (HRB.out).1 (HRB.out).2
              rw [HSX.out, HGX.out] at HFS
              have HFS := Aside0.mk HFS
              clear hx0 hy0 hz0 fx0 fy0 fz0 d1 d2 d3 HRB HF8 HR8 HC HFD HF2
              generalize (w8.setCells g2 (j * 5 + 2) [.int .i64 tt.f0, .int .i64 tt.f1, .slice A7 tt.f2.length c7]) = w9 at *
              have hb0 := (HFS.out).rt.cells.1.1
              obtain ⟨sr, hsr⟩ : ∃ sr : ByteArray, sr = ⟨r.toArray⟩ := ⟨_, rfl⟩
              rw [← hsr] at hb0
              have HSR := Aside0.mk (show sr.data.toList = r by rw [hsr])
              clear hsr
              cases q9 : sr.toList.isEmpty with
              | false =>
                have HNE := Aside0.mk (show r ≠ [] from fun e => by rw [Lib.toList_data, HSR.out, e] at q9; cases q9)
                have HX := Aside0.mk (getR3_bad HSZ.out (HVV.out.trans (by rw [HBO.out, HNX.out]; simp only [Option.bind_some]; rw [if_neg HNE.out]; rfl)))
                go_wp2
                exact get3_panic HX.out (HFS.out).g _ rfl rfl
              | true =>
                have HNE := Aside0.mk (show r = [] from by rw [Lib.toList_data, HSR.out] at q9; exact List.isEmpty_iff.1 q9)
                have HBN := Aside0.mk (show boAll (nmE (G.sy.map (·.f0))) (nmE (G.fs.map (·.f0))) G.fs G.bo = (boAll (nmE (G.sy.map (·.f0))) (nmE (G.fs.map (·.f0))) (G.fs.drop (j + 1)) (G.bo.drop (j + 1))).map ((dn ++ [⟨(G.fs.getD j z52).f0, (G.fs.getD j z52).f1, tt⟩]) ++ ·) from by
                  rw [HBO.out, HNX.out]
                  simp only [Option.bind_some]
                  rw [if_pos HNE.out, Option.map_map]
                  congr 1
                  funext l
                  simp)
                have HFT := HFS.out
                rw [HNE.out] at HFT
                have HFT := Aside0.mk HFT
                go_wp2
                go_roundg (G.bo.length - (j + 1))
                case measure => have := HLT.out; omega
                case rel => exact ⟨j + 1, dn ++ [⟨(G.fs.getD j z52).f0, (G.fs.getD j z52).f1, tt⟩], HLT.out, Nat.le_refl _, by rw [HKZ.out], ⟨by rw [List.length_append, HDN.out]; rfl⟩, HBN, HFT⟩
        · obtain rfl : j = G.bo.length := by omega
          have HVF := Aside0.mk (show getV3 t = some (G.sy, dn, G.large) from by rw [HVV.out, HBO.out, boAll_end HNB.out]; simp)
          have HF2 := HF.out
          rw [List.drop_eq_nil_of_le (show G.fs.length ≤ G.bo.length from Nat.le_of_eq HNB.out.symm), List.append_nil] at HF2
          have HF2 := Aside0.mk HF2
          clear HF HBO HVV HDN hlt hj hgg HBZ
          have HCK := Aside0.mk (scheme_calls G.sy dn A1 A2 c1 c2 wr (Kd.R_reads' (HF2.out).r1).2.2 (Kd.R_reads' (HF2.out).r2).2.2)
          obtain ⟨p0, p1, p3⟩ := (HF2.out).g.cells
          obtain ⟨f0, f1, f3⟩ := (HF2.out).g.frozen
          cases qL : G.large with
          | true =>
            have HRR := Aside0.mk (show getR3 t = (7, [], []) by unfold getR3; rw [if_neg (by have := HSZ.out; omega), HVF.out]; simp only; rw [if_pos (.inl qL)])
            have HFI := Aside0.mk ((HF2.out).fin (.slice none 0 0) (.slice none 0 0) (.int .i64 7))
            go_wp2
            obtain ⟨_, k1, k2, k3⟩ := HFI.out
            exact get3_done (A1 := none) (A2 := none) (c1 := 0) (c2 := 0) (sy := []) (fs := []) HRR.out k1 k2 k3 ⟨rfl, by simp, fun h => absurd h (by simp)⟩ (Nat.le_refl _) ⟨rfl, by simp, fun h => absurd h (by simp)⟩ (Nat.le_refl _) _ rfl rfl
          | false =>
            by_cases hz : schV G.sy dn = 0
            · rw [hz] at HCK
              have HRR := Aside0.mk (show getR3 t = (0, G.sy, dn) by unfold getR3; rw [if_neg (by have := HSZ.out; omega), HVF.out]; simp only; rw [if_neg (by rw [qL, hz]; simp)])
              clear hz
              go_wp2_with fail
              refine (HCK.out).mono ?_
              rintro E w6 ⟨rfl, hb⟩
              have HF3 := Aside0.mk ((HF2.out).below hb)
              clear hb p0 p1 p3 f0 f1 f3 HF2 HCK
              obtain ⟨p0, p1, p3⟩ := (HF3.out).g.cells
              obtain ⟨f0, f1, f3⟩ := (HF3.out).g.frozen
              have HFI := Aside0.mk ((HF3.out).fin (.slice A1 G.sy.length c1) (.slice A2 dn.length c2) (.int .i64 0))
              go_wp2
              obtain ⟨⟨k4, k5, k6, k7⟩, k1, k2, k3⟩ := HFI.out
              exact get3_done HRR.out k1 k2 k3 k4 k5 k6 k7 _ rfl rfl
            · have hsv : schV G.sy dn = 7 := by
                cases q : schB G.sy dn with
                | true => exact absurd (schV_good q) hz
                | false => exact schV_bad q
              rw [hsv] at HCK
              have HRR := Aside0.mk (show getR3 t = (7, [], []) by unfold getR3; rw [if_neg (by have := HSZ.out; omega), HVF.out]; simp only; rw [if_pos (.inr hz)])
              clear hz hsv
              go_wp2_with fail
              refine (HCK.out).mono ?_
              rintro E w6 ⟨rfl, hb⟩
              have HF3 := Aside0.mk ((HF2.out).below hb)
              clear hb p0 p1 p3 f0 f1 f3 HF2 HCK
              obtain ⟨p0, p1, p3⟩ := (HF3.out).g.cells
              obtain ⟨f0, f1, f3⟩ := (HF3.out).g.frozen
              have HFI := Aside0.mk ((HF3.out).fin (.slice none 0 0) (.slice none 0 0) (.int .i64 7))
              go_wp2
              obtain ⟨_, k1, k2, k3⟩ := HFI.out
              exact get3_done (A1 := none) (A2 := none) (c1 := 0) (c2 := 0) (sy := []) (fs := []) HRR.out k1 k2 k3 ⟨rfl, by simp, fun h => absurd h (by simp)⟩ (Nat.le_refl _) ⟨rfl, by simp, fun h => absurd h (by simp)⟩ (Nat.le_refl _) _ rfl rfl
end Go.Proofs.YthflpbgloeimfaaGreatDoor.H
namespace Go.Proofs.YthflpbgloeimfaaGreatDoor.H
open Go.RowKit Go.Proofs.YthflpbgloeimfaaGreatDoorW.PrintWords Go.Proofs.YthflpbgloeimfaaGreatDoorW.PrintLast Go.Proofs.YthflpbgloeimfaaGreatDoorW.PrintMore
open Go.Proofs.YthflpbgloeimfaaGreatDoor.Q (S47 k47 rd_T47 z47 at_T47 S50 k50 rd_T50 z50 at_T50 S52 k52 rd_T52 at_T52 z52 S71 k71 rd_T71 at_T71)
set_option linter.unusedVariables false
set_option linter.unusedSimpArgs false
theorem flatMap_len {α : Type} {f : α → List UInt8} {c : Nat} (l : List α) (h : ∀ x ∈ l, (f x).length ≤ c) : (l.flatMap f).length ≤ l.length * c := by
  induction l with
  | nil => simp
  | cons a r ih =>
    rw [List.flatMap_cons, List.length_append, List.length_cons, Nat.succ_mul]
    have := h a (List.mem_cons_self ..)
    have := ih (fun x hx => h x (List.mem_cons_of_mem _ hx))
    omega
theorem flatMap_drop {α : Type} {g : α → List UInt8} {l : List α} {i : Nat} (h : i < l.length) : (l.drop i).flatMap g = g l[i] ++ (l.drop (i + 1)).flatMap g := by
  rw [dropS h, List.flatMap_cons]
structure ScOk (sy : List S71) (fs : List S52) : Prop where
  ny : sy.length ≤ 24
  nf : fs.length ≤ 64
  sym : ∀ x ∈ sy, x.f0.size ≤ 24 ∧ 0 ≤ x.f1 ∧ x.f1 ≤ 4
  fnm : ∀ f ∈ fs, f.f0.size ≤ 24
  srt : ∀ f ∈ fs, srtB f.f1 = true ∧ f.f1.f0.length ≤ 60
  bod : ∀ f ∈ fs, tN f.f2 ≤ 400 ∧ tIn sy.length fs.length f.f1.f0.length f.f2
theorem scOk {sy : List S71} {fs : List S52} (h : schB sy fs = true) : ScOk sy fs := by
  obtain ⟨⟨h1, h2, h3⟩, h4, h5, h6, h7⟩ := schB_parts h
  refine ⟨(symsB_len h1).1, h3, fun x hx => ?_, fun f hf => ?_, fun f hf => ?_, fun f hf => ?_⟩
  · have h8 := (symsB_len h1).2 x hx
    unfold symOk at h8
    simp only [Bool.and_eq_true, decide_eq_true_eq] at h8
    exact ⟨nameB_size h8.1.1, h8.1.2, h8.2⟩
  · have h8 := h5 f hf
    unfold headOk at h8
    rw [Bool.and_eq_true] at h8
    exact nameB_size h8.1
  · have h8 := headOk_srt (h5 f hf)
    refine ⟨h8, ?_⟩
    have h9 := srtB_N h8
    obtain ⟨n, ⟨l⟩, b⟩ := f
    simp only at h9 ⊢
    rw [sN] at h9
    have := sLen_le (l := l)
    omega
  · have h8 := h7 f hf
    unfold bodyOk endO at h8
    simp only [Bool.and_eq_true, decide_eq_true_eq] at h8
    refine ⟨h8.1.1, ?_⟩
    cases e : ofV sy (fs.map (·.f1)) f.f1.f0 f.f2 with
    | none => rw [e] at h8; exact absurd h8.2.1 (by simp)
    | some x => have := ofV_in e; rwa [List.length_map] at this
theorem symL_len {sy : List S71} {fs : List S52} (h : ScOk sy fs) {x : S71} (hx : x ∈ sy) : (symL x).length ≤ 40 := by
  have := h.sym x hx
  have h2 := dg_len (n := x.f1.toNat) (by omega)
  rw [Lib.size_eq] at this
  unfold symL
  simp only [List.length_append, List.length_cons, List.length_nil]
  omega
theorem funL_len {sy : List S71} {fs : List S52} (h : ScOk sy fs) {f : S52} (hf : f ∈ fs) : (funL sy fs f).length ≤ 12500 := by
  have h1 := h.fnm f hf
  rw [Lib.size_eq] at h1
  have h2 := srtS_len f.f1
  have h3 := srtB_N (h.srt f hf).1
  have h4 := trmS_len (sy := sy) (fs := fs) (fun x hx => (h.sym x hx).1) h.fnm (np := f.f1.f0.length) (by have := (h.srt f hf).2; omega) _ f.f2 (Nat.le_refl _) (h.bod f hf).2
  have h5 := (h.bod f hf).1
  unfold funL
  simp only [List.length_append, List.length_cons, List.length_nil]
  omega
theorem putL_len {sy : List S71} {fs : List S52} (h : ScOk sy fs) : (putL sy fs).length ≤ 1000000 := by
  have h1 := flatMap_len (f := symL) (c := 40) sy (fun x hx => symL_len h hx)
  have h2 := flatMap_len (f := funL sy fs) (c := 12500) fs (fun f hf => funL_len h hf)
  have := h.ny; have := h.nf
  unfold putL
  rw [List.length_append]
  omega
structure PX (w : World) (b : Nat) (s1 s2 : Value) (acc : List UInt8) (W : World) : Prop where
  hb : Below w.heap.size w W
  box : W.heap[w.heap.size]? = some (.cells #[s1, s2] 25 (0, 0))
  hlt : w.heap.size < b
  bb : BB b b acc W
  hbw : b < W.heap.size
theorem PX.write {w W W1 : World} {b : Nat} {s1 s2 : Value} {acc acc1 : List UInt8} (h : PX w b s1 s2 acc W) (hw : WrE b acc1 W W1) : PX w b s1 s2 acc1 W1 :=
  ⟨Below.trans h.hb (Below.mono hw.2.1 (Nat.le_of_lt h.hlt)), (hw.2.1.block _ h.hlt).trans h.box, h.hlt, hw.1, Nat.lt_of_lt_of_le h.hbw hw.2.2.size⟩
theorem PX.below {w W W1 : World} {b : Nat} {s1 s2 : Value} {acc : List UInt8} (h : PX w b s1 s2 acc W) (hb : Below W.heap.size W W1) : PX w b s1 s2 acc W1 :=
  ⟨below_then h.hb h.hb.size hb, blk_below h.box hb, h.hlt, bb_below h.bb hb, Nat.lt_of_lt_of_le h.hbw hb.size⟩
theorem px_start (w W : World) (s1 s2 : Value) (hb : Below w.heap.size w W) (box : W.heap[w.heap.size]? = some (.cells #[s1, s2] 25 (0, 0))) :
    PX w W.heap.size s1 s2 [] (W.alloc (.cells #[.pointer none, .slice none 0 0] 69)) :=
  ⟨hb.alloc hb.size _, blk_alloc box _, blk_lt box, bb_new W, by simp⟩
theorem PX.cells {w : World} {b : Nat} {s1 s2 : Value} {acc : List UInt8} {W : World} (h : PX w b s1 s2 acc W) : W.cell? ⟨w.heap.size, 0, none⟩ = some s1 ∧ W.cell? ⟨w.heap.size, 1, none⟩ = some s2 := ⟨(blk_cell h.box 0).trans rfl, (blk_cell h.box 1).trans rfl⟩
def PutE (v : List UInt8 × Int) (w : World) (e : Ending) (w' : World) : Prop := e = .returned (.tuple #[.string ⟨v.1.toArray⟩, .int .i64 v.2]) ∧ Below w.heap.size w w'
set_option maxHeartbeats 16000000 in
set_option maxRecDepth 100000 in
theorem put_calls (sy : List S71) (fs : List S52) (A1 A2 : Option Addr) (c1 c2 : Nat) (w : World) (hS : Kd.C k71 w A1 sy.length sy) (hF : Kd.C k52 w A2 fs.length fs) :
    Calls Tryz.prog 17 #[.agg #[.slice A1 sy.length c1, .slice A2 fs.length c2]] w (PutE (putV sy fs) w) := by
  have HS := Aside0.mk hS
  have HF := Aside0.mk hF
  have HP := Aside0.mk (CB.mk (below_alloc (Below.refl w.heap.size w) (.cells #[.slice A1 sy.length c1, .slice A2 fs.length c2] 25)) (blk_new w (.cells #[.slice A1 sy.length c1, .slice A2 fs.length c2] 25)))
  have HCK := Aside0.mk (fun (W : World) (hW : Below w.heap.size w W) => scheme_calls sy fs A1 A2 c1 c2 W (Kd.C_below hS hW) (Kd.C_below hF hW))
  clear hS hF
  go_enter Tryz.func17, Tryz.ntmps17
  go_upto_region 1 with (fail)
  generalize w.alloc (.cells #[.slice A1 sy.length c1, .slice A2 fs.length c2] 25) = W1 at *
  obtain ⟨p0, p1⟩ := (HP.out).cells
  go_wp2_with fail
  refine (HCK.out W1 (HP.out).hb).mono ?_
  rintro E w2 ⟨rfl, hb⟩
  have HP2 := Aside0.mk ((HP.out).below hb)
  clear hb p0 p1 HP HCK
  cases q : schB sy fs with
  | false =>
    have HV := Aside0.mk (show putV sy fs = ([], 7) by unfold putV; rw [q]; rfl)
    rw [schV_bad q]
    clear q
    go_wp2
    go_ret2
    exact ⟨by rw [HV.out]; rfl, (HP2.out).hb⟩
  | true =>
  have HPV := Aside0.mk (show putV sy fs = if 65536 < (putL sy fs).length then ([], 3) else (putL sy fs, 0) by unfold putV; rw [q]; rfl)
  have HOK := Aside0.mk (scOk q)
  have HLN := Aside0.mk (putL_len (scOk q))
  rw [schV_good q]
  clear q
  have HX := Aside0.mk (px_start w w2 _ _ (HP2.out).hb (HP2.out).h0)
  go_upto_region 5 with (fail)
  generalize w2.alloc (.cells #[.pointer none, .slice none 0 0] 69) = w3 at *
  generalize w2.heap.size = b at *
  obtain ⟨p0, p1⟩ := (HX.out).cells
  go_wp2
  clear p0 p1 HP2
  go_loopg [20] sy.length (fun gg v20 wi => ∃ (j : Nat) (acc : List UInt8), j ≤ sy.length ∧ sy.length - j ≤ gg ∧ v20 = .int .i64 j ∧ Aside0 (PX w b (.slice A1 sy.length c1) (.slice A2 fs.length c2) acc wi) ∧ Aside0 (acc ++ ((sy.drop j).flatMap symL ++ fs.flatMap (funL sy fs)) = putL sy fs))
  case atStart => exact ⟨0, [], by omega, by omega, rfl, HX, ⟨rfl⟩⟩
  case round =>
    clear HX
    obtain ⟨j, acc, hj, hgg, rfl, HX, HA⟩ := hrel
    by_cases hlt : j < sy.length
    · have hltz : (j : Int) < (sy.length : Int) := by omega
      obtain ⟨ad, e, hx0, hx1⟩ := at_T71 HS.out (j : Int) (by omega) hltz
      subst e
      rw [rdY_at hlt] at hx0 hx1
      rw [Int.toNat_natCast] at hx0 hx1
      replace hx0 := ((HX.out).hb.cell (World.block_lt_of_cell? w _ hx0)).trans hx0
      replace hx1 := ((HX.out).hb.cell (World.block_lt_of_cell? w _ hx1)).trans hx1
      have HFD := Aside0.mk (flatMap_drop (g := symL) hlt)
      have HSM := Aside0.mk ((HOK.out).sym _ (List.getElem_mem hlt))
      generalize sy[j] = u at *
      go_upto_region 8 with (fail)
      have HX5 := Aside0.mk (blk_new wr (.cells #[.string u.f0, .int .i64 u.f1] 71))
      have HP5 := Aside0.mk ((HX.out).below (below_alloc (Below.refl wr.heap.size wr) (.cells #[.string u.f0, .int .i64 u.f1] 71)))
      clear hx0 hx1 HX
      generalize (wr.alloc (.cells #[.string u.f0, .int .i64 u.f1] 71)) = w5 at *
      generalize wr.heap.size = b7 at *
      have m0 : w5.cell? ⟨b7, 0, none⟩ = some (.string u.f0) := (blk_cell HX5.out 0).trans rfl
      have m1 : w5.cell? ⟨b7, 1, none⟩ = some (.int .i64 u.f1) := (blk_cell HX5.out 1).trans rfl
      have HI := Aside0.mk (fun W => itoa_calls u.f1 (HSM.out).2.1 (by have := (HSM.out).2.2; omega) W)
      have hsz : u.f0.size ≤ 24 := (HSM.out).1
      have hd : (dg u.f1.toNat).length ≤ 2 := dg_len (by have := (HSM.out).2.1; have := (HSM.out).2.2; omega)
      refine wp_region_still_tail 9 (by kernel_rfl) (by kernel_rfl) ?_
      simp only [List.take_succ_cons, List.take_zero, List.drop_succ_cons, List.drop_zero]
      repeat (refine wpStill_step (fun K hK => ?_); go_simp; (first | refine hK _ ?_ | (rw [if_neg (by omega)]; go_simp; refine hK _ ?_)); clear hK K)
      still_call (HI.out _)
      repeat (refine wpStill_step (fun K hK => ?_); go_simp; (first | refine hK _ ?_ | (rw [if_neg (by omega)]; go_simp; refine hK _ ?_)); clear hK K)
      refine wpStill_nil ?_
      change wpList _ _ _ _ _ w5.drew
      have HP6 := Aside0.mk ((HP5.out).below (below_drew (Below.refl _ _)))
      clear m0 m1 HP5 HI
      generalize w5.drew = w6 at *
      have HA6 := Aside0.mk (show (acc ++ symL u) ++ ((sy.drop (j + 1)).flatMap symL ++ fs.flatMap (funL sy fs)) = putL sy fs by rw [← HA.out, HFD.out]; simp)
      have HLA := Aside0.mk (show acc.length + (symL u).length ≤ 1000000 by
        have h1 := HLN.out
        rw [← HA6.out, List.length_append, List.length_append] at h1
        omega)
      have HWS := Aside0.mk (fun (s : ByteArray) (hs : s.data.toList = symL u) => ws_calls b acc s _ _ (HP6.out).bb hs (by have := HLA.out; omega) (Nat.le_of_lt (HP6.out).hbw))
      go_wp2_with fail
      refine ((HWS.out) _ ?_).mono ?_
      · first | rfl | (unfold symL; simp; done) | (unfold symL; simp; rfl)
      rintro E w7 ⟨rfl, hw⟩
      have HP7 := Aside0.mk ((HP6.out).write hw)
      clear hw HWS HLA hd hsz
      go_wp2
      go_roundg (sy.length - (j + 1))
      case measure => omega
      case rel => exact ⟨j + 1, acc ++ symL u, by omega, by omega, by first | rfl | (rw [wrap_succ (by omega) (by have := (HOK.out).ny; omega)]; rfl), HP7, HA6⟩
    · have hltz : ¬ (j : Int) < (sy.length : Int) := by omega
      have hje : j = sy.length := by omega
      subst hje
      have HA2 := Aside0.mk (show acc ++ fs.flatMap (funL sy fs) = putL sy fs by rw [← HA.out, List.drop_length]; rfl)
      obtain ⟨p0, p1⟩ := (HX.out).cells
      go_wp2
      clear p0 p1 HA
      go_loopg [38] fs.length (fun gg v38 wi => ∃ (j : Nat) (acc : List UInt8), j ≤ fs.length ∧ fs.length - j ≤ gg ∧ v38 = .int .i64 j ∧ Aside0 (PX w b (.slice A1 sy.length c1) (.slice A2 fs.length c2) acc wi) ∧ Aside0 (acc ++ (fs.drop j).flatMap (funL sy fs) = putL sy fs))
      case atStart => exact ⟨0, acc, by omega, by omega, rfl, HX, HA2⟩
      case round =>
        clear HX HA2
        obtain ⟨j, acc, hj, hgg, rfl, HX, HA⟩ := hrel
        by_cases hlt : j < fs.length
        · have hltz : (j : Int) < (fs.length : Int) := by omega
          obtain ⟨ad, As, cs, At, ct, e, hx0, hx1, hx2, hx3, hx4, hls, hCs, hlt4, hCt⟩ := at_T52 HF.out (j : Int) (by omega) hltz
          subst e
          rw [rdF_at hlt] at hx0 hx1 hx2 hx3 hx4 hls hCs hlt4 hCt
          rw [Int.toNat_natCast] at hx0 hx1 hx2 hx3 hx4
          replace hx0 := ((HX.out).hb.cell (World.block_lt_of_cell? w _ hx0)).trans hx0
          replace hx1 := ((HX.out).hb.cell (World.block_lt_of_cell? w _ hx1)).trans hx1
          replace hx2 := ((HX.out).hb.cell (World.block_lt_of_cell? w _ hx2)).trans hx2
          replace hx3 := ((HX.out).hb.cell (World.block_lt_of_cell? w _ hx3)).trans hx3
          replace hx4 := ((HX.out).hb.cell (World.block_lt_of_cell? w _ hx4)).trans hx4
          have HFD := Aside0.mk (flatMap_drop (g := funL sy fs) hlt)
          have HFN := Aside0.mk ((HOK.out).fnm _ (List.getElem_mem hlt))
          have HFS := Aside0.mk ((HOK.out).srt _ (List.getElem_mem hlt))
          have HFB := Aside0.mk ((HOK.out).bod _ (List.getElem_mem hlt))
          have HCs := Aside0.mk hCs
          have HLs := Aside0.mk hls
          have HCt := Aside0.mk hCt
          have HLt := Aside0.mk hlt4
          clear hCs hls hlt4 hCt
          generalize fs[j] = f at *
          go_upto_region 13 with (fail)
          have HX5 := Aside0.mk (blk_new wr (.cells #[.string f.f0, .slice As f.f1.f0.length cs, .int .i64 f.f2.f0, .int .i64 f.f2.f1, .slice At f.f2.f2.length ct] 52))
          have HP5 := Aside0.mk ((HX.out).below (below_alloc (Below.refl _ _) (.cells #[.string f.f0, .slice As f.f1.f0.length cs, .int .i64 f.f2.f0, .int .i64 f.f2.f1, .slice At f.f2.f2.length ct] 52)))
          have HNB := Aside0.mk (show wr.heap.size ≠ b from by have := (HX.out).hbw; omega)
          clear hx0 hx1 hx2 hx3 hx4 HX
          generalize (wr.alloc (.cells #[.string f.f0, .slice As f.f1.f0.length cs, .int .i64 f.f2.f0, .int .i64 f.f2.f1, .slice At f.f2.f2.length ct] 52)) = w5 at *
          generalize wr.heap.size = b7 at *
          have HKX := Aside0.mk (fun (W3 : World) (h : W3.heap[b7]? = some (.cells #[.string f.f0, .slice As f.f1.f0.length cs, .int .i64 f.f2.f0, .int .i64 f.f2.f1, .slice At f.f2.f2.length ct] 52 (0, 0))) => (show W3.cell? ⟨b7, 0, none⟩ = some (.string f.f0) ∧ W3.cell? ⟨b7, 1, none⟩ = some (.slice As f.f1.f0.length cs) ∧ W3.cell? ⟨b7, 2, none⟩ = some (.int .i64 f.f2.f0) ∧ W3.cell? ⟨b7, 3, none⟩ = some (.int .i64 f.f2.f1) ∧ W3.cell? ⟨b7, 4, none⟩ = some (.slice At f.f2.f2.length ct) from
            ⟨(blk_cell h 0).trans rfl, (blk_cell h 1).trans rfl, (blk_cell h 2).trans rfl, (blk_cell h 3).trans rfl, (blk_cell h 4).trans rfl⟩))
          obtain ⟨m0, m1, m2, m3, m4⟩ := HKX.out _ HX5.out
          have HSP := Aside0.mk (sput_calls f.f1 As cs w5 (Kd.C_below HCs.out (HP5.out).hb) HLs.out)
          rw [show sputV f.f1 = (srtS f.f1, 0) by unfold sputV; rw [(HFS.out).1]; rfl] at HSP
          have hsl : (srtS f.f1).length ≤ 360 := by have := srtS_len f.f1; have := srtB_N (HFS.out).1; omega
          have hsz : f.f0.size ≤ 24 := HFN.out
          go_wp2_with fail
          refine (HSP.out).mono ?_
          rintro E w6 ⟨rfl, hb⟩
          have HP6 := Aside0.mk ((HP5.out).below hb)
          have HX6 := Aside0.mk (blk_below HX5.out hb)
          clear hb m0 m1 m2 m3 m4 HP5 HX5 HSP
          obtain ⟨m0, m1, m2, m3, m4⟩ := HKX.out _ HX6.out
          have HA6 := Aside0.mk (show (acc ++ funL sy fs f) ++ (fs.drop (j + 1)).flatMap (funL sy fs) = putL sy fs by rw [← HA.out, HFD.out]; simp)
          have HLA := Aside0.mk (show acc.length + (funL sy fs f).length ≤ 1000000 by
            have h1 := HLN.out
            rw [← HA6.out, List.length_append, List.length_append] at h1
            omega)
          have HFL := Aside0.mk (show (funL sy fs f).length = 11 + f.f0.data.toList.length + (srtS f.f1).length + (trmS (hdS sy fs) f.f2).length from by unfold funL; simp only [List.length_append, List.length_cons, List.length_nil]; omega)
          have HWS := Aside0.mk (fun (s : ByteArray) (hs : s.data.toList = [102, 117, 110, 32] ++ (f.f0.data.toList ++ ([32, 58, 32] ++ (srtS f.f1 ++ [32, 61, 32])))) => ws_calls b acc s _ w6 (HP6.out).bb hs (by have := HLA.out; have := HFL.out; simp only [List.length_append, List.length_cons, List.length_nil]; omega) (Nat.le_of_lt (HP6.out).hbw))
          go_wp2_with fail
          refine ((HWS.out) _ ?_).mono ?_
          · first | rfl | (simp; done) | (simp; rfl)
          rintro E w7 ⟨rfl, hw⟩
          have HP7 := Aside0.mk ((HP6.out).write hw)
          have HX7 := Aside0.mk (hw.2.2.keep _ _ _ HNB.out (by decide) HX6.out)
          clear hw m0 m1 m2 m3 m4 HP6 HX6 HWS hsl hsz
          obtain ⟨m0, m1, m2, m3, m4⟩ := HKX.out _ HX7.out
          obtain ⟨p0, p1⟩ := (HP7.out).cells
          have HTW := Aside0.mk (twrite_calls sy fs A1 (some ad) c1 c2 f.f1.f0.length w HS.out HF.out (fun x hx => ((HOK.out).sym x hx).1) (HOK.out).fnm (by have := (HFS.out).2; omega) b (Nat.le_of_lt (HP7.out).hlt) 400 f.f2 (HFB.out).1 (by omega) (HFB.out).2 At ct (acc ++ ([102, 117, 110, 32] ++ (f.f0.data.toList ++ ([32, 58, 32] ++ (srtS f.f1 ++ [32, 61, 32]))))) w7 HCt.out HLt.out (HP7.out).hb (HP7.out).bb (HP7.out).hbw (by
            have := HLA.out; have := HFL.out; have := (HFB.out).1
            rw [List.length_append]
            simp only [List.length_append, List.length_cons, List.length_nil]
            omega))
          go_wp2_with fail
          refine (HTW.out).mono ?_
          rintro E w8 ⟨rfl, hw⟩
          have HP8 := Aside0.mk ((HP7.out).write hw)
          clear hw m0 m1 m2 m3 m4 p0 p1 HP7 HX7 HTW
          have HW10 := Aside0.mk (wb10 b _ w8 (HP8.out).bb (by
            have := HLA.out; have := HFL.out
            simp only [List.length_append, List.length_cons, List.length_nil]
            omega) (Nat.le_of_lt (HP8.out).hbw))
          go_wp2_with fail
          refine (HW10.out).mono ?_
          rintro E w9 ⟨rfl, hw⟩
          have HP9 := Aside0.mk ((HP8.out).write hw)
          have HFE := Aside0.mk (show acc ++ ([102, 117, 110, 32] ++ (f.f0.data.toList ++ ([32, 58, 32] ++ (srtS f.f1 ++ [32, 61, 32])))) ++ trmS (hdS sy fs) f.f2 ++ [10] = acc ++ funL sy fs f by unfold funL; simp)
          rw [HFE.out] at HP9
          clear hw HP8 HW10 HLA
          go_wp2
          go_roundg (fs.length - (j + 1))
          case measure => omega
          case rel => exact ⟨j + 1, acc ++ funL sy fs f, by omega, by omega, by first | rfl | (rw [wrap_succ (by omega) (by have := (HOK.out).nf; omega)]; rfl), HP9, HA6⟩
        · have hltz : ¬ (j : Int) < (fs.length : Int) := by omega
          have hje : j = fs.length := by omega
          subst hje
          have HACC := Aside0.mk (show acc = putL sy fs by rw [← HA.out, List.drop_length]; simp)
          have HLEN := Aside0.mk (show Calls Tryz.prog 49 #[.pointer (some ⟨b, 0, none⟩)] wr fun e w' => e = .returned (.int .i64 (acc.length : Int)) ∧ w' = wr from by
            have h := Tryz.Builder_Len b b (Lib.byteCells acc) wr (HX.out).bb
            rw [byteCells_len] at h
            exact h)
          have HSTR := Aside0.mk (Tryz.Builder_String_any b b acc wr (HX.out).bb (Nat.le_of_lt (HX.out).hbw))
          rw [← HACC.out] at HPV
          clear HA hj hgg hlt
          go_wp2_with fail
          refine (HLEN.out).mono ?_
          rintro E W0 ⟨rfl, rfl⟩
          cases q1 : decide ((acc.length : Int) > 65536) with
          | true =>
            have HP := Aside0.mk (show putV sy fs = ([], 3) by rw [HPV.out, if_pos (by have := of_decide_eq_true q1; omega)])
            go_wp2
            go_ret2
            exact ⟨by rw [HP.out]; rfl, (HX.out).hb⟩
          | false =>
            have HP := Aside0.mk (show putV sy fs = (acc, 0) by rw [HPV.out, if_neg (by have := of_decide_eq_false q1; omega)])
            go_wp2_with fail
            refine (HSTR.out).mono ?_
            rintro E W9 ⟨rfl, hb⟩
            have HB9 := Aside0.mk (Below.trans (HX.out).hb (Below.mono hb (Nat.le_of_lt (HX.out).hlt)))
            clear hb
            go_wp2
            go_ret2
            exact ⟨by rw [HP.out]; rfl, HB9.out⟩
end Go.Proofs.YthflpbgloeimfaaGreatDoor.H
namespace Go.Proofs.YthflpbgloeimfaaGreatDoor.H
open Go.RowKit Go.Proofs.YthflpbgloeimfaaGreatDoorW.PrintWords Go.Proofs.YthflpbgloeimfaaGreatDoorW.PrintLast Go.Proofs.YthflpbgloeimfaaGreatDoorW.PrintMore
open Go.Proofs.YthflpbgloeimfaaGreatDoor.Q (S47 k47 rd_T47 z47 at_T47 S50 k50 rd_T50 z50 at_T50 S52 k52 rd_T52 at_T52 z52 S71 k71 rd_T71 at_T71)
set_option linter.unusedVariables false
set_option linter.unusedSimpArgs false
def exL : List UInt8 := [115, 121, 109, 98, 111, 108, 32, 97, 32, 50, 10, 115, 121, 109, 98, 111, 108, 32, 98, 32, 49, 10, 115, 121, 109, 98, 111, 108, 32, 99, 32, 48, 10, 102, 117, 110, 32, 115, 32, 58, 32, 111, 32, 61, 32, 102, 32, 35, 99, 10, 102, 117, 110, 32, 102, 32, 58, 32, 111, 32, 62, 32, 111, 32, 61, 32, 35, 97, 32, 36, 48, 32, 40, 102, 32, 40, 35, 98, 32, 36, 48, 41, 41, 10]
def sy0 : List S71 := [⟨⟨#[97]⟩, 2⟩, ⟨⟨#[98]⟩, 1⟩, ⟨⟨#[99]⟩, 0⟩]
def fs0 : List S52 := [⟨⟨#[115]⟩, ⟨[]⟩, ⟨1, 1, [⟨2, 2, []⟩]⟩⟩, ⟨⟨#[102]⟩, ⟨[⟨[]⟩]⟩, ⟨2, 0, [⟨0, 0, []⟩, ⟨1, 1, [⟨2, 1, [⟨0, 0, []⟩]⟩]⟩]⟩⟩]
theorem ex_get : getR3 ⟨exL.toArray⟩ = (0, sy0, fs0) := by kernel_rfl
theorem ex_put : putV sy0 fs0 = (exL, 0) := by kernel_rfl
theorem ex_ord : ordV sy0 fs0 = (1, 0) := by kernel_rfl
theorem ex_sch : schV sy0 fs0 = 0 := by kernel_rfl
theorem get0_calls (w : World) (hm : MX w) : Calls Tryz.prog 19 #[.string ⟨exL.toArray⟩] w fun E w' => ∃ A1 c1 A2 c2, E = .returned (.tuple #[.agg #[.slice A1 sy0.length c1, .slice A2 fs0.length c2], .int .i64 0]) ∧ Kd.C k71 w' A1 sy0.length sy0 ∧ Kd.C k52 w' A2 fs0.length fs0 ∧ Below w.heap.size w w' := by
  refine (get3_calls ⟨exL.toArray⟩ w hm).mono ?_
  intro E w' h
  unfold GetE3 at h
  rw [ex_get] at h
  obtain ⟨A1, c1, A2, c2, rfl, h1, h2, h3, h4, h5⟩ := h
  exact ⟨A1, c1, A2, c2, rfl, h1, h3, h5⟩
theorem put0_calls (A1 : Option Addr) (c1 : Nat) (A2 : Option Addr) (c2 : Nat) (w : World) (hS : Kd.C k71 w A1 sy0.length sy0) (hF : Kd.C k52 w A2 fs0.length fs0) :
    Calls Tryz.prog 17 #[.agg #[.slice A1 sy0.length c1, .slice A2 fs0.length c2]] w fun E w' => E = .returned (.tuple #[.string ⟨exL.toArray⟩, .int .i64 0]) ∧ Below w.heap.size w w' := by
  refine (put_calls sy0 fs0 A1 A2 c1 c2 w hS hF).mono ?_
  intro E w' h
  unfold PutE at h
  rw [ex_put] at h
  exact h
theorem ord0_calls (A1 : Option Addr) (c1 : Nat) (A2 : Option Addr) (c2 : Nat) (w : World) (hS : Kd.C k71 w A1 sy0.length sy0) (hF : Kd.C k52 w A2 fs0.length fs0) :
    Calls Tryz.prog 24 #[.agg #[.slice A1 sy0.length c1, .slice A2 fs0.length c2]] w fun E w' => E = .returned (.tuple #[.int .i64 1, .int .i64 0]) ∧ Below w.heap.size w w' := by
  have h := sorderS_calls sy0 fs0 A1 A2 c1 c2 w hS hF
  rw [ex_ord] at h
  exact h
theorem sch0_calls (A1 : Option Addr) (c1 : Nat) (A2 : Option Addr) (c2 : Nat) (w : World) (hS : Kd.C k71 w A1 sy0.length sy0) (hF : Kd.C k52 w A2 fs0.length fs0) :
    Calls Tryz.prog 14 #[.agg #[.slice A1 sy0.length c1, .slice A2 fs0.length c2]] w fun E w' => E = .returned (.int .i64 0) ∧ Below w.heap.size w w' := by
  have h := scheme_calls sy0 fs0 A1 A2 c1 c2 w hS hF
  rw [ex_sch] at h
  exact h
theorem sy0_len : sy0.length = 3 := rfl
theorem fs0_len : fs0.length = 2 := rfl
theorem exL_list : (⟨exL.toArray⟩ : ByteArray).toList = exL := by rw [Lib.toList_data]
set_option maxHeartbeats 16000000 in
set_option maxRecDepth 100000 in
theorem alive_calls (w : World) (hm : MX w) : Calls Tryz.prog 16 #[] w fun E w' => E = .returned (.bool true) ∧ Below w.heap.size w w' := by
  have HG := Aside0.mk (get0_calls w hm)
  have HEL := Aside0.mk exL_list
  unfold exL at HG HEL
  rw [sy0_len, fs0_len] at HG
  clear hm
  go_enter Tryz.func16, Tryz.ntmps16
  go_wp2_with fail
  refine (HG.out).mono ?_
  rintro E w1 ⟨A1, c1, A2, c2, rfl, h1, h2, hb⟩
  have hba := below_alloc (Below.refl w1.heap.size w1) (.cells #[.slice A1 3 c1, .slice A2 2 c2] 25)
  have HB2 := Aside0.mk (below_then hb hb.size hba)
  have HX2 := Aside0.mk (blk_new w1 (.cells #[.slice A1 3 c1, .slice A2 2 c2] 25))
  have HS2 := Aside0.mk (Kd.C_below h1 hba)
  have HF2 := Aside0.mk (Kd.C_below h2 hba)
  clear h1 h2 hb hba HG
  go_upto_region 2 with (fail)
  generalize w1.alloc (.cells #[.slice A1 3 c1, .slice A2 2 c2] 25) = w2 at *
  generalize w1.heap.size = b1 at *
  have HK := Aside0.mk (fun (W : World) (hW : Below w2.heap.size w2 W) => (show W.cell? ⟨b1, 0, none⟩ = some (.slice A1 3 c1) ∧ W.cell? ⟨b1, 1, none⟩ = some (.slice A2 2 c2) from ⟨(blk_cell (blk_below HX2.out hW) 0).trans rfl, (blk_cell (blk_below HX2.out hW) 1).trans rfl⟩))
  have HP := Aside0.mk (put0_calls A1 c1 A2 c2 w2 HS2.out HF2.out)
  have HO := Aside0.mk (fun (W : World) (hW : Below w2.heap.size w2 W) => ord0_calls A1 c1 A2 c2 W (Kd.C_below HS2.out hW) (Kd.C_below HF2.out hW))
  have HC := Aside0.mk (fun (W : World) (hW : Below w2.heap.size w2 W) => sch0_calls A1 c1 A2 c2 W (Kd.C_below HS2.out hW) (Kd.C_below HF2.out hW))
  unfold exL at HP
  rw [sy0_len, fs0_len] at HP HO HC
  clear HS2 HF2 HX2
  obtain ⟨k0, k1⟩ := HK.out _ (Below.refl _ _)
  go_wp2_with fail
  refine (HP.out).mono ?_
  rintro E w3 ⟨rfl, hb⟩
  have HB3 := Aside0.mk hb
  clear hb k0 k1 HP
  obtain ⟨k0, k1⟩ := HK.out _ HB3.out
  go_wp2_with fail
  refine (HO.out _ HB3.out).mono ?_
  rintro E w4 ⟨rfl, hb⟩
  have HB4 := Aside0.mk (below_then HB3.out (HB3.out).size hb)
  clear hb k0 k1 HB3 HO
  obtain ⟨k0, k1⟩ := HK.out _ HB4.out
  go_wp2_with fail
  refine (HC.out _ HB4.out).mono ?_
  rintro E w5 ⟨rfl, hb⟩
  have HB5 := Aside0.mk (below_then HB4.out (HB4.out).size hb)
  clear hb k0 k1
  go_wp2
  go_ret
  exact ⟨rfl, below_then HB2.out (HB2.out).size HB5.out⟩
end Go.Proofs.YthflpbgloeimfaaGreatDoor.H
namespace Go.Proofs.YthflpbgloeimfaaGreatDoor.H
open Go.RowKit Go.Proofs.YthflpbgloeimfaaGreatDoorW.PrintWords Go.Proofs.YthflpbgloeimfaaGreatDoorW.PrintLast Go.Proofs.YthflpbgloeimfaaGreatDoorW.PrintMore
open Go.Proofs.YthflpbgloeimfaaGreatDoor.Q (S47 k47 rd_T47 z47 at_T47 S50 k50 rd_T50 z50 at_T50 S52 k52 rd_T52 at_T52 z52 S71 k71 rd_T71 at_T71)
set_option linter.unusedVariables false
set_option linter.unusedSimpArgs false
theorem ints_self (l : List Int) (hm : l.length ≤ 9223372036854775807) (d : Nat) : ∀ j : Nat, l.length - j = d → j ≤ l.length → Ev (fun k => Q.virgationlaw03_ints.l0 k l l (l.length : Int) (j : Int)) true := by
  induction d with
  | zero =>
    intro j hd hj
    refine ev_end fun k => ?_
    simp only [Q.virgationlaw03_ints.l0]
    rw [if_neg (by omega)]
  | succ d ih =>
    intro j hd hj
    refine ev_next (ih (j + 1) (by omega) (by omega)) fun k => ?_
    simp only [Q.virgationlaw03_ints.l0]
    rw [if_pos (by omega), if_pos (by omega), if_pos (by omega), if_pos (by omega), if_pos trivial, wrap_succ (by omega) (by omega)]
    rfl
theorem ints_calls (A : Option Addr) (c : Nat) (B : Option Addr) (c2 : Nat) (l : List Int) (w : World) (hr : Kd.C (Kd.int .i64) w A l.length l) (hc : l.length ≤ c) (hr2 : Kd.C (Kd.int .i64) w B l.length l) (hc2 : l.length ≤ c2) :
    Calls Tryz.prog 28 #[.slice A l.length c, .slice B l.length c2] w fun e w' => e = .returned (.bool true) ∧ Below w.heap.size w w' := by
  obtain ⟨k, hk⟩ := (ints_self l hr.2.1 _ 0 rfl (Nat.zero_le _)).rounds
  refine (Q.virgationlaw03_ints.calls k A c l B c2 l true w hr hc hr2 hc2 ?_).mono fun e w' h => ⟨h.1, h.2.below⟩
  unfold Q.virgationlaw03_ints.f
  rw [if_pos rfl]
  exact hk
end Go.Proofs.YthflpbgloeimfaaGreatDoor.H
namespace Go.Proofs.YthflpbgloeimfaaGreatDoor.H
open Go.RowKit Go.Proofs.YthflpbgloeimfaaGreatDoorW.PrintWords Go.Proofs.YthflpbgloeimfaaGreatDoorW.PrintLast Go.Proofs.YthflpbgloeimfaaGreatDoorW.PrintMore
open Go.Proofs.YthflpbgloeimfaaGreatDoor.Q (S47 k47 rd_T47 z47 at_T47 S50 k50 rd_T50 z50 at_T50 S52 k52 rd_T52 at_T52 z52 S71 k71 rd_T71 at_T71)
set_option linter.unusedVariables false
set_option linter.unusedSimpArgs false
set_option maxHeartbeats 16000000 in
set_option maxRecDepth 100000 in
theorem schemeReach_calls (sy : List S71) (fs : List S52) (A1 A2 : Option Addr) (c1 c2 : Nat) (w : World) (hS : Kd.C k71 w A1 sy.length sy) (hF : Kd.C k52 w A2 fs.length fs) (hc1 : sy.length ≤ c1) (hc2 : fs.length ≤ c2) (hm : MX w) :
    Calls Tryz.prog 11 #[.agg #[.slice A1 sy.length c1, .slice A2 fs.length c2]] w fun E w' => E = .returned (.bool true) ∧ Below w.heap.size w w' := by
  have H1 := Aside0.mk fun W (hW : Below w.heap.size w W) => sreach_calls sy fs A1 A2 c1 c2 W (Kd.C_below hS hW) (Kd.C_below hF hW)
  have H2 := Aside0.mk fun W (hW : Below w.heap.size w W) => rreach_calls sy fs A1 A2 c1 c2 W (Kd.C_below hS hW) (Kd.C_below hF hW) hc1 hc2
  have HAL := Aside0.mk fun W (hW : Below w.heap.size w W) => alive_calls W (hm.below hW)
  have HS := Aside0.mk (CB.mk (below_alloc (Below.refl w.heap.size w) (.cells #[.slice A1 sy.length c1, .slice A2 fs.length c2] 25)) (blk_new w (.cells #[.slice A1 sy.length c1, .slice A2 fs.length c2] 25)))
  clear hS hF hc1 hc2 hm
  unfold ReQ at H1 H2
  go_enter Tryz.func11, Tryz.ntmps11
  go_upto_region 1 with (fail)
  generalize w.alloc (.cells #[.slice A1 sy.length c1, .slice A2 fs.length c2] 25) = W1 at *
  obtain ⟨k0, k1⟩ := (HS.out).cells
  go_wp2_with fail
  refine (H1.out _ (HS.out).hb).mono ?_
  rintro E W2 ⟨hb, hE⟩
  have HS2 := Aside0.mk ((HS.out).below hb)
  rcases hE with ⟨hq, rfl⟩ | ⟨hq, l, A3, c3, hl, rfl, hc3, hC3⟩
  · have HQ := Aside0.mk hq
    clear hb hq HS H1 k0 k1
    obtain ⟨k0, k1⟩ := (HS2.out).cells
    go_wp2_with fail
    refine (H2.out _ (HS2.out).hb).mono ?_
    rintro E W3 ⟨hb, hE⟩
    have HS3 := Aside0.mk ((HS2.out).below hb)
    rcases hE with ⟨_, rfl⟩ | ⟨hq, _⟩
    case inr => rw [HQ.out] at hq; cases hq
    have HI := Aside0.mk (show Calls Tryz.prog 28 #[.slice none 0 0, .slice none 0 0] W3 _ from ints_calls none 0 none 0 [] W3 ⟨rfl, Nat.zero_le _, fun h => absurd h (by decide)⟩ (Nat.le_refl _) ⟨rfl, Nat.zero_le _, fun h => absurd h (by decide)⟩ (Nat.le_refl _))
    clear hb HS2 H2 k0 k1
    go_wp2_with fail
    refine (HI.out).mono ?_
    rintro E W4 ⟨rfl, hb⟩
    have HS4 := Aside0.mk ((HS3.out).below hb)
    clear hb HS3 HI
    go_wp2_with fail
    refine (HAL.out _ (HS4.out).hb).mono ?_
    rintro E W5 ⟨rfl, hb⟩
    have HS5 := Aside0.mk ((HS4.out).below hb)
    clear hb HS4
    go_wp2
    go_ret
    exact ⟨rfl, (HS5.out).hb⟩
  · have HQ := Aside0.mk hq
    have HL := Aside0.mk hl
    have HC3 := Aside0.mk (And.intro hc3 hC3)
    clear hb hq hl hc3 hC3 HS H1 k0 k1
    obtain ⟨k0, k1⟩ := (HS2.out).cells
    go_wp2_with fail
    refine (H2.out _ (HS2.out).hb).mono ?_
    rintro E W3 ⟨hb, hE⟩
    have HS3 := Aside0.mk ((HS2.out).below hb)
    rcases hE with ⟨hq, _⟩ | ⟨_, l2, A4, c4, hl2, rfl, hc4, hC4⟩
    · rw [HQ.out] at hq; cases hq
    obtain rfl := IsR.uniq hl2 HL.out
    have HI := Aside0.mk (ints_calls A3 c3 A4 c4 l2 W3 (Kd.C_below (HC3.out).2 hb) (HC3.out).1 hC4 hc4)
    clear hb hl2 hc4 hC4 HS2 H2 k0 k1
    go_wp2_with fail
    refine (HI.out).mono ?_
    rintro E W4 ⟨rfl, hb⟩
    have HS4 := Aside0.mk ((HS3.out).below hb)
    clear hb HS3 HI
    go_wp2_with fail
    refine (HAL.out _ (HS4.out).hb).mono ?_
    rintro E W5 ⟨rfl, hb⟩
    have HS5 := Aside0.mk ((HS4.out).below hb)
    clear hb HS4
    go_wp2
    go_ret
    exact ⟨rfl, (HS5.out).hb⟩
end Go.Proofs.YthflpbgloeimfaaGreatDoor.H
namespace Go.Proofs.YthflpbgloeimfaaGreatDoor.H
open Go.ChangeShapes Go.WideShapes Go.ChangeAt Go.RowKit Go.Deep Go.Proofs.YthflpbgloeimfaaGreatDoorW.PrintWords Go.Proofs.YthflpbgloeimfaaGreatDoorW.PrintLast Go.Proofs.YthflpbgloeimfaaGreatDoorW.PrintMore
open Go.Proofs.YthflpbgloeimfaaGreatDoor.Q (S47 k47 S50 k50 S52 k52 S71 k71)
set_option linter.unusedVariables false
set_option linter.unusedSimpArgs false
set_option maxRecDepth 100000
def Opens {α : Type} (P : Program) (t : TypeId) (d : Kd α) (W : α → Prop) : Prop :=
  ∀ {H : Type} (enc : TypeId × Value → H) (w : World) (base : Nat) (held : Bool) (fuel : Nat) (cs : List Value) (x : DataW H × List MemPlace),
    DataW.trod enc P w base (fun _ => true) held fuel t cs = some x → ∃ a : α, d.K w a cs ∧ W a
theorem choose_list {α : Type} {p : Nat → α → Prop} {n : Nat} (h : ∀ i, i < n → ∃ y, p i y) : ∃ xs : List α, xs.length = n ∧ ∀ i y, xs[i]? = some y → p i y := by
  induction n with
  | zero => exact ⟨[], rfl, fun i y h => by simp at h⟩
  | succ n ih =>
    obtain ⟨xs, h1, h2⟩ := ih (fun i hi => h i (by omega))
    obtain ⟨y, hy⟩ := h n (by omega)
    refine ⟨xs ++ [y], by simp [h1], fun i z hz => ?_⟩
    rcases Nat.lt_or_ge i xs.length with hi | hi
    · rw [List.getElem?_append_left hi] at hz
      exact h2 i z hz
    · rw [List.getElem?_append_right hi] at hz
      have h3 : i - xs.length = 0 := by
        rcases Nat.eq_zero_or_pos (i - xs.length) with h | h
        · exact h
        · rw [List.getElem?_eq_none (by simp; omega)] at hz; cases hz
      rw [h3] at hz
      obtain rfl : y = z := by simpa using hz
      rw [show i = n from by omega]
      exact hy
theorem opens_slice {α : Type} {P : Program} {t e : TypeId} {d : Kd α} {W : α → Prop} (ht : P.underlying t = some (.slice e)) (hsz : P.cellsOf e = d.sz) (ho : Opens P e d W) : Opens P t (Kd.slice e d) (fun xs => ∀ x ∈ xs, W x) := by
  intro H enc w base held fuel cs x h
  rcases open_slice ht h with ⟨rfl, _⟩ | ⟨a, len, cap, m, n, D, Pl, rfl, _, hl, hm, hmm, _, hx⟩
  · exact ⟨[], ⟨none, 0, rfl, Nat.le_refl _, rfl, by simp, fun h0 => absurd h0 (by simp)⟩, by simp⟩
  · have hmm' : m = cap := by simpa using hmm
    have each : ∀ i, i < len → ∃ y : α, ∃ cs', w.cells? base (a.add (i * P.cellsOf e)) (P.cellsOf e) = some cs' ∧ d.K w y cs' ∧ W y := by
      intro i hi
      obtain ⟨cs', h1, h2⟩ := hx i (by omega)
      obtain ⟨y, hy, hw⟩ := ho enc w base held n cs' _ h2
      exact ⟨y, cs', h1, hy, hw⟩
    obtain ⟨xs, hxl, hxs⟩ := choose_list each
    refine ⟨xs, ⟨some a, cap, by rw [hxl], by omega, rfl, ?_, fun _ => ⟨a, rfl, fun j p hj => ?_⟩⟩, fun y hy => ?_⟩
    · have : maxLen = 9223372036854775807 := rfl
      omega
    · obtain ⟨cs', h1, h2, _⟩ := hxs j p hj
      obtain ⟨_, hlen, hcell⟩ := World.cells?_some h1
      refine ⟨cs', d.K_len h2, h2, fun i u hu => ?_⟩
      have hi : i < cs'.length := (List.getElem?_eq_some_iff.1 hu).1
      have h3 := hcell i (by omega)
      rw [Go.Deep.add_add, hsz] at h3
      rw [h3]; exact hu
    · obtain ⟨j, hj, rfl⟩ := List.getElem_of_mem hy
      obtain ⟨_, _, _, h3⟩ := hxs j _ (List.getElem?_eq_getElem hj)
      exact h3
theorem open_row {α H : Type} {enc : TypeId × Value → H} {P : Program} {t e : TypeId} {d : Kd α} {W : α → Prop} {w : World} {base fuel : Nat} {held : Bool} {v : Value} {x : DataW H × List MemPlace} (ht : P.underlying t = some (.slice e)) (hsz : P.cellsOf e = d.sz) (ho : Opens P e d W)
    (h : DataW.trod enc P w base (fun _ => true) held fuel t [v] = some x) : ∃ A c xs, v = .slice A xs.length c ∧ xs.length ≤ c ∧ d.C w A xs.length xs ∧ ∀ y ∈ xs, W y := by
  obtain ⟨xs, ⟨A, c, hv, hc, hC⟩, hW⟩ := opens_slice ht hsz ho enc w base held fuel [v] x h
  exact ⟨A, c, xs, by simpa using hv, hc, hC, hW⟩
theorem open_kidsG {α H : Type} {d : Kd α} {ts te : TypeId} (hts : Tryz.prog.underlying ts = some (.slice te)) (hsz : Tryz.prog.cellsOf te = d.sz) {enc : TypeId × Value → H} {w : World} {base fuel : Nat} {held : Bool} {cs : List Value} {x : DataW H × List MemPlace} (h : DataW.trod enc Tryz.prog w base (fun _ => true) held fuel ts cs = some x)
    (each : ∀ (fuel : Nat) (cs : List Value) (y : DataW H × List MemPlace), SizeOf.sizeOf y.1 < SizeOf.sizeOf x.1 → DataW.trod enc Tryz.prog w base (fun _ => true) held fuel te cs = some y → ∃ t : α, d.K w t cs) :
    ∃ (A : Option Addr) (c : Nat) (l : List α), cs = [.slice A l.length c] ∧ l.length ≤ c ∧ d.C w A l.length l := by
  rcases open_slice hts h with ⟨rfl, _⟩ | ⟨a, len, cap, m, n, D, Pl, rfl, _, hl, hm, hmm, hxe, hx⟩
  · exact ⟨none, 0, [], rfl, Nat.le_refl _, rfl, by simp, fun h0 => absurd h0 (by simp)⟩
  · have hmm' : m = cap := by simpa using hmm
    have hel : ∀ i, i < len → ∃ t : α, ∃ cs', w.cells? base (a.add (i * Tryz.prog.cellsOf te)) (Tryz.prog.cellsOf te) = some cs' ∧ d.K w t cs' := by
      intro i hi
      obtain ⟨cs', h1, h2⟩ := hx i (by omega)
      have hlt : SizeOf.sizeOf (D i) < SizeOf.sizeOf x.1 := by
        rw [hxe]
        have hmem : D i ∈ (List.range len).map D := List.mem_map.2 ⟨i, List.mem_range.2 hi, rfl⟩
        have := List.sizeOf_lt_of_mem hmem
        simp only [DataW.slice.sizeOf_spec]
        omega
      obtain ⟨t, ht⟩ := each n cs' _ hlt h2
      exact ⟨t, cs', h1, ht⟩
    obtain ⟨xs, hxl, hxs⟩ := choose_list hel
    refine ⟨some a, cap, xs, by rw [hxl], by omega, rfl, ?_, fun _ => ⟨a, rfl, fun j p hj => ?_⟩⟩
    · have : maxLen = 9223372036854775807 := rfl
      omega
    · obtain ⟨cs', h1, h2⟩ := hxs j p hj
      obtain ⟨_, hlen, hcell⟩ := World.cells?_some h1
      refine ⟨cs', d.K_len h2, h2, fun i u hu => ?_⟩
      have hi : i < cs'.length := (List.getElem?_eq_some_iff.1 hu).1
      have h3 := hcell i (by omega)
      rw [Go.Deep.add_add, hsz] at h3
      rw [h3]; exact hu
theorem open_srt {H : Type} {enc : TypeId × Value → H} {w : World} {base : Nat} {held : Bool} (N : Nat) : ∀ (fuel : Nat) (cs : List Value) (x : DataW H × List MemPlace), SizeOf.sizeOf x.1 ≤ N → DataW.trod enc Tryz.prog w base (fun _ => true) held fuel 47 cs = some x → ∃ t : S47, k47.K w t cs := by
  induction N with
  | zero =>
    intro fuel cs x hN
    have : 0 < SizeOf.sizeOf x.1 := by cases x.1 <;> simp <;> omega
    omega
  | succ N ih =>
    intro fuel cs x hN h
    obtain ⟨y0, n, rfl, hl, h0⟩ := trod_struct1 Tryz.underlying47 h
    have o0 : (Tryz.prog.cellsOf 43) = 1 := by kernel_rfl
    have o2 : (Tryz.prog.cellsOf 47) = 1 := by kernel_rfl
    rw [o2] at hl
    match cs, hl with
    | [c0], _ =>
      simp only [o0] at h0
      obtain ⟨A, c, l, e1, hlc, hC⟩ := open_kidsG (d := k47) Tryz.underlying43 (by kernel_rfl) h0 (fun fuel cs y hy hh => ih fuel cs y (by simp only [DataW.agg.sizeOf_spec, List.cons.sizeOf_spec, List.nil.sizeOf_spec] at hN; omega) hh)
      obtain rfl : c0 = .slice A l.length c := by simpa using e1
      exact ⟨⟨l⟩, Q.k47_mk w ⟨l⟩ hlc hC⟩
theorem open_trm {H : Type} {enc : TypeId × Value → H} {w : World} {base : Nat} {held : Bool} (N : Nat) : ∀ (fuel : Nat) (cs : List Value) (x : DataW H × List MemPlace), SizeOf.sizeOf x.1 ≤ N → DataW.trod enc Tryz.prog w base (fun _ => true) held fuel 50 cs = some x → ∃ t : S50, k50.K w t cs := by
  induction N with
  | zero =>
    intro fuel cs x hN
    have : 0 < SizeOf.sizeOf x.1 := by cases x.1 <;> simp <;> omega
    omega
  | succ N ih =>
    intro fuel cs x hN h
    obtain ⟨y0, y1, y2, n, rfl, hl, h0, h1, h2⟩ := trod_struct3 Tryz.underlying50 h
    have o0 : (Tryz.prog.cellsOf 3) = 1 := by kernel_rfl
    have o1 : (Tryz.prog.cellsOf 48) = 1 := by kernel_rfl
    have o2 : (Tryz.prog.cellsOf 50) = 3 := by kernel_rfl
    rw [o2] at hl
    match cs, hl with
    | [c0, c1, c2], _ =>
      simp only [o0, o1] at h0 h1 h2
      obtain ⟨s, e0, _, _⟩ := DataW.trod_int Tryz.underlying3 h0
      obtain ⟨t, e1, _, _⟩ := DataW.trod_int Tryz.underlying3 h1
      obtain ⟨A, c, l, e2, hlc, hC⟩ := open_kidsG (d := k50) Tryz.underlying48 (by kernel_rfl) h2 (fun fuel cs y hy hh => ih fuel cs y (by simp only [DataW.agg.sizeOf_spec, List.cons.sizeOf_spec, List.nil.sizeOf_spec] at hN; omega) hh)
      obtain rfl : c0 = .int .i64 s := by simpa using e0
      obtain rfl : c1 = .int .i64 t := by simpa using e1
      obtain rfl : c2 = .slice A l.length c := by simpa using e2
      exact ⟨⟨s, t, l⟩, Q.k50_mk w ⟨s, t, l⟩ hlc hC⟩
theorem opens_fun : Opens Tryz.prog 52 k52 (fun _ => True) := by
  intro H enc w base held fuel cs x h
  obtain ⟨y0, y1, y2, n, rfl, hl, h0, h1, h2⟩ := trod_struct3 Tryz.underlying52 h
  have o0 : (Tryz.prog.cellsOf 9) = 1 := by kernel_rfl
  have o1 : (Tryz.prog.cellsOf 47) = 1 := by kernel_rfl
  have o2 : (Tryz.prog.cellsOf 50) = 3 := by kernel_rfl
  have o3 : (Tryz.prog.cellsOf 52) = 5 := by kernel_rfl
  rw [o3] at hl
  match cs, hl with
  | [c0, c1, c2, c3, c4], _ =>
    simp only [o0, o1, o2] at h0 h1 h2
    obtain ⟨s, e0, _, _⟩ := DataW.trod_string Tryz.underlying9 h0
    obtain ⟨t, ht⟩ := open_srt _ _ _ _ (Nat.le_refl _) h1
    obtain ⟨u, hu⟩ := open_trm _ _ _ _ (Nat.le_refl _) h2
    obtain ⟨A1, d1, e1, l1, g1⟩ := Q.k47_open ht
    obtain ⟨A4, d4, e4, l4, g4⟩ := Q.k50_open hu
    have f0 : c0 = .string s := by simpa using e0
    have f1 : c1 = .slice A1 t.f0.length d1 := by simpa using e1
    have f4 : c2 = .int .i64 u.f0 ∧ c3 = .int .i64 u.f1 ∧ c4 = .slice A4 u.f2.length d4 := by simpa using e4
    obtain ⟨rfl, rfl, rfl⟩ := f4
    subst f0 f1
    exact ⟨⟨s, t, u⟩, Q.k52_mk w ⟨s, t, u⟩ l1 g1 l4 g4, trivial⟩
theorem opens_sym : Opens Tryz.prog 71 k71 (fun _ => True) := by
  intro H enc w base held fuel cs x h
  obtain ⟨y0, y1, n, rfl, hl, h0, h1⟩ := trod_struct2 Tryz.underlying71 h
  have o0 : (Tryz.prog.cellsOf 9) = 1 := by kernel_rfl
  have o1 : (Tryz.prog.cellsOf 3) = 1 := by kernel_rfl
  have o2 : (Tryz.prog.cellsOf 71) = 2 := by kernel_rfl
  rw [o2] at hl
  match cs, hl with
  | [c0, c1], _ =>
    simp only [o0, o1] at h0 h1
    obtain ⟨s, e0, _, _⟩ := DataW.trod_string Tryz.underlying9 h0
    obtain ⟨t, e1, _, _⟩ := DataW.trod_int Tryz.underlying3 h1
    obtain rfl : c0 = .string s := by simpa using e0
    obtain rfl : c1 = .int .i64 t := by simpa using e1
    exact ⟨⟨s, t⟩, Q.k71_mk w ⟨s, t⟩, trivial⟩
theorem arg_scheme {H : Type} {enc : TypeId × Value → H} {w : World} {base : Nat} {held : Bool} {v : Value} {d : DataW H} {p : List MemPlace} (hv : Value.okWide Tryz.prog w .any base 25 v) (h : DataW.Trod enc Tryz.prog w 0 (fun _ => true) held 25 v d p) :
    ∃ (sy : List S71) (fs : List S52) (A1 : Option Addr) (c1 : Nat) (A2 : Option Addr) (c2 : Nat), v = .agg #[.slice A1 sy.length c1, .slice A2 fs.length c2] ∧ sy.length ≤ c1 ∧ Kd.C k71 w A1 sy.length sy ∧ fs.length ≤ c2 ∧ Kd.C k52 w A2 fs.length fs := by
  obtain ⟨x0, y0, _, _, n0, rfl, _, _, a0, b0⟩ := Go.Joins.open_agg2 Tryz.underlying25 (by kernel_rfl) (by kernel_rfl) hv h
  obtain ⟨A1, c1, sy, rfl, hl1, hC1, _⟩ := open_row (d := k71) Tryz.underlying22 (by kernel_rfl) opens_sym a0
  obtain ⟨A2, c2, fs, rfl, hl2, hC2, _⟩ := open_row (d := k52) Tryz.underlying23 (by kernel_rfl) opens_fun b0
  exact ⟨sy, fs, A1, c1, A2, c2, rfl, hl1, hC1, hl2, hC2⟩
theorem own : ownKnob Tryz.prog.godebug = none := by kernel_rfl
theorem laidOut : laidOutB Tryz.prog = true := by kernel_rfl
abbrev laid7 : List (String × DataW Unit) := [("math/bits.deBruijn32tab", Rows.laid_math_bits_deBruijn32tab), ("math/bits.deBruijn64tab", Rows.laid_math_bits_deBruijn64tab), ("internal/strconv.uint64pow10", Rows.laid_internal_strconv_uint64pow10), ("unicode/utf8.acceptRanges", Rows.laid_unicode_utf8_acceptRanges), ("strconv.ErrRange", Rows.laid_strconv_ErrRange), ("strconv.ErrSyntax", Rows.laid_strconv_ErrSyntax), ("unicode/utf8.first", Rows.laid_unicode_utf8_first)]
theorem mx_of_shaped {w : World} (h : w.ShapedOpen Tryz.prog) : MX w :=
  Go.Proofs.cell_of_shapedOpen_int (g := 0) (t := 3) (zero := #[.int .i64 0]) h (of_decide_eq_true (by kernel_rfl)) (by kernel_rfl) rfl (by kernel_rfl) (by kernel_rfl) Tryz.underlying3
theorem handed_and_shaped {H : Type} {enc : TypeId × Value → H} {a : Assume} {C : Checked} {os : Os} {f : FuncId} {fn : Func} {s : ChangeSpec} {conds : List PathCond} {apart fresh handsOn again : Bool} {X : World → Array Value → Prop}
    (hX : ∀ (w w' : World) (args : Array Value), w.heap = w'.heap → X w args → X w' args)
    (own : ownKnob C.prog.godebug = none) (started : os.Started) (noInit : C.prog.inits.idxOf? f = none) (hfn : C.prog.funcs[f]? = some fn)
    (witness : ∃ (w : World) (tape : Tape) (i : Input), w.os = os ∧ (w.forCall tape i).Shaped C.prog ∧ i.vars = [] ∧ Input.okWide C.prog (w.forCall tape i) .any w.heap.size f i ∧
      ((s.pre enc C.prog fn conds apart (w.forCall tape i).memory i.args ∧ X (w.forCall tape i).memory i.args) ∧ sizedMet enc C.prog fn (OpenSpec.ofChange s) apart (w.forCall tape i).memory i.args) ∧ a.holds C.prog (lone (Frame.enter C.prog f i.args .normal) [] (w.forCall tape i)))
    (contract : ∀ (W : World) (base : Nat) (args : Array Value) (ds gs : List (DataW H)) (before : List MemPlace),
      (∀ (j : Nat) t v, fn.params[j]? = some t → args[j]? = some v → Value.okWide C.prog W .any base t v) →
      DataW.Whole enc C.prog fn.params.toList s.vars apart W args.toList ds gs before →
      conds.all (PathCond.test C.prog ⟨fn.params.toList, ds, s.plain.varTypes C.prog, gs⟩) = true →
      X W args → W.ShapedOpen C.prog →
      Calls C.prog f args W fun e W' => ∃ v, e = .returned v ∧ s.post enc C.prog fn apart fresh handsOn again W args v W') :
    ReturnsInHanded a C os f .any (fun w args => (s.pre enc C.prog fn conds apart w args ∧ X w args) ∧ sizedMet enc C.prog fn (OpenSpec.ofChange s) apart w args) (s.post enc C.prog fn apart fresh handsOn again) := by
  refine returnsInHanded_of_calls own started noInit witness ?_
  intro w tape i _ hsh _ hok hpre hholds
  obtain ⟨_, _, _, fn', hfn', _, _, _, _, hval⟩ := hok
  have e : fn' = fn := Option.some.inj (hfn'.symm.trans hfn)
  subst e
  obtain ⟨⟨⟨ds, gs, before, hw, hc⟩, hx⟩, hz⟩ := hpre
  have hw' := DataW.Whole.of_heap (w' := w.forCall tape i) (by rfl) hw
  refine (contract (w.forCall tape i) w.heap.size i.args ds gs before hval hw' hc (hX _ _ _ (by rfl) hx) hsh).mono fun e W' ⟨v, he, hp⟩ => ?_
  subst he
  exact ChangeSpec.post_blind hp
end Go.Proofs.YthflpbgloeimfaaGreatDoor.H
