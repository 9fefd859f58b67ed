/- What schemeOwn_calls, handed_and_shaped, own, laidOut, laid7, mx_of_shaped, arg_scheme needs, out of my texts, by a program (slim.py). -/
import Derived.Test.YthflpbgloeimfaaGreatDoorSO4
namespace Go.Proofs.YthflpbgloeimfaaGreatDoor.H
open Go.RowKit Go.Proofs.YthflpbgloeimfaaGreatDoorW.PrintWords Go.Proofs.YthflpbgloeimfaaGreatDoorW.PrintLast Go.Proofs.YthflpbgloeimfaaGreatDoorW.PrintMore
open Go.Proofs.YthflpbgloeimfaaGreatDoor.Q (S47 k47 rd_T47 z47 at_T47 S50 k50 rd_T50 z50 at_T50 S52 k52 rd_T52 at_T52 z52 S71 k71 rd_T71 at_T71)
open Go.RowKit Go.Proofs.YthflpbgloeimfaaGreatDoorW.PrintWords
open Go.ChangeShapes Go.WideShapes Go.ChangeAt Go.RowKit Go.Deep Go.Proofs.YthflpbgloeimfaaGreatDoorW.PrintWords Go.Proofs.YthflpbgloeimfaaGreatDoorW.PrintLast Go.Proofs.YthflpbgloeimfaaGreatDoorW.PrintMore
set_option maxRecDepth 100000
set_option linter.unusedVariables false
set_option linter.unusedSimpArgs false
theorem symR_size {l : List UInt8} {y : S71} (h : symR l = some y) : y.f0.size ≤ l.length := by
 unfold symR at h
 split at h
 ·obtain rfl := l13_ h
  have := (cut_size l [32]).1
  show (Lib.cut l [32]).1.toArray.size ≤ l.length
  rw [List.size_toArray]; exact this
 ·cases h
theorem line_cases (l : List UInt8) (n : Nat) : (Lib.hasPrefix l pSym = true ∧ n = 0) ∨ (Lib.hasPrefix l pSym = true ∧ ¬ n = 0) ∨ Lib.hasPrefix l pSym = false := by
 cases Lib.hasPrefix l pSym with
 | true => by_cases h : n = 0 <;> simp [h]
 | false => simp
def lnFun (g : GSt) (s : ByteArray) : Option GSt :=
 if Lib.hasPrefix s.data.toList pFun = true ∧ (Lib.cut (Lib.trimPrefix s.data.toList pFun) [32, 58, 32]).2.2 = true ∧ (Lib.cut (Lib.cut (Lib.trimPrefix s.data.toList pFun) [32, 58, 32]).2.1 [32, 61, 32]).2.2 = true ∧ nameB ⟨(Lib.cut (Lib.trimPrefix s.data.toList pFun) [32, 58, 32]).1.toArray⟩ = true then
  (if (getSR ⟨(Lib.cut (Lib.cut (Lib.trimPrefix s.data.toList pFun) [32, 58, 32]).2.1 [32, 61, 32]).1.toArray⟩).1 = 4 then none
   else some { sy := g.sy, fs := g.fs ++ [⟨⟨(Lib.cut (Lib.trimPrefix s.data.toList pFun) [32, 58, 32]).1.toArray⟩, (getSR ⟨(Lib.cut (Lib.cut (Lib.trimPrefix s.data.toList pFun) [32, 58, 32]).2.1 [32, 61, 32]).1.toArray⟩).2, ⟨0, 0, []⟩⟩], bo := g.bo ++ [⟨(Lib.cut (Lib.cut (Lib.trimPrefix s.data.toList pFun) [32, 58, 32]).2.1 [32, 61, 32]).2.1.toArray⟩], large := g.large || decide ((getSR ⟨(Lib.cut (Lib.cut (Lib.trimPrefix s.data.toList pFun) [32, 58, 32]).2.1 [32, 61, 32]).1.toArray⟩).1 ≠ 0) })
 else none
theorem lnStep_fun0 {g : GSt} {s : ByteArray} (h : ¬ (Lib.hasPrefix s.data.toList pSym = true ∧ g.fs.length = 0)) : lnStep g s = lnFun g s := by
 unfold lnStep lnFun
 simp only
 rw [if_neg h]
theorem info9 : (Tryz.prog.info? 9).map (fun i => (i.zero, i.size, i.bytes)) = some (some (.string ⟨#[]⟩), 1, 16) := by kernel_rfl
theorem bytes_empty {s : ByteArray} (h : s.toList.isEmpty = true) : s = ByteArray.empty := by
 rw [Lib.toList_data] at h
 rcases s with ⟨⟨l⟩⟩
 have : l = [] := List.isEmpty_iff.1 h
 rw [this]; rfl
set_option maxHeartbeats 16000000 in
set_option maxRecDepth 100000 in
theorem get3_calls (t : ByteArray) (w : World) (hm : MX w) : Calls Tryz.prog 19 #[.string t] w (GetE3 t w) := by
 have hmf := run_mkfun3
 have hmm := @run_makeMap Tryz.prog
 have HM := mk0 hm
 have HG := mk0 (GH3.start w)
 have HSZ1 := mk0 (show ((w.alloc (.cells #[.slice none 0 0, .slice none 0 0] 25)).alloc (.cells #[.int .i64 0] 26)).heap.size = w.heap.size + 2 from by simp)
 clear hm
 go_enter_defers Tryz.func19, Tryz.ntmps19
 go_upto_region 1 with (fail)
 generalize ((w.alloc (.cells #[.slice none 0 0, .slice none 0 0] 25)).alloc (.cells #[.int .i64 0] 26)) = W1 at *
 obtain ⟨c0, c1, c3⟩ := (HG.out).cells
 obtain ⟨f0, f1, f3⟩ := (HG.out).frozen
 cases q1 : decide ((t.size : Int) > 65536) with
 | true =>
  have HR := mk0 (show getR3 t = (3, [], []) by unfold getR3; rw [if_pos (by have := l0_ q1; omega)])
  have HQ := mk0 (((HG.out).set0 (.slice none 0 0)).set1 (.slice none 0 0))
  go_wp2
  exact get3_ret0 HR.out ((HQ.out).hb.setCell (p := ⟨w.heap.size + 1, 0, none⟩) (Nat.le_succ _) _) (aT_ (HQ.out).ha (by show w.heap.size ≠ w.heap.size + 1; omega) _) (blk_set (HQ.out).he 0 _) _ rfl rfl
 | false =>
 have HSZ := mk0 (show t.size ≤ 65536 by have := of_decide_eq_false q1; omega)
 have HSP := mk0 (split_calls t 10 W1 (by have := HSZ.out; omega) ((HM.out).below (HG.out).hb))
 clear c0 c1 c3 f0 f1 f3
 go_wp2_with fail
 refine (HSP.out).mono ?_
 rintro E w2 ⟨rfl, hw⟩
 clear q1
 have hb := aA_ (Below.refl W1.heap.size W1) (.cells ((chunks t 10).map Value.string).toArray 9)
 have hbn := aU_ W1 (.cells ((chunks t 10).map Value.string).toArray 9)
 rw [← hw] at hb hbn
 have HG2 := mk0 ((HG.out).below hb)
 have HLB := mk0 hbn
 have HLS := mk0 (show (chunks t 10).length ≤ 65537 from by have := chunks_short t 10; have := HSZ.out; omega)
 have HV1 := mk0 (fun h => getV3_end (t := t) h)
 have HV2 := mk0 (fun h => getV3_lines (t := t) h)
 have HV3 := mk0 (fun h0 g h => getV3_main (t := t) h0 (g := g) h)
 have HCS := mk0 (fun i => chunk_size t 10 i)
 have HBL := mk0 (show w.heap.size + 2 ≤ W1.heap.size from by have := HSZ1.out; omega)
 have hpos := chunks_pos t 10
 clear hw hb hbn HG HSP HSZ1
 generalize chunks t 10 = L at *
 generalize W1.heap.size = bl at *
 have hk := strs_cell HLB.out (show L.length - 1 < L.length by omega)
 generalize hle : L.getD (L.length - 1) ByteArray.empty = le at *
 have HLEE := mk0 hle
 clear hle
 have hz2 : IntKind.i64.wrap ((L.length : Int) - 1) = (L.length : Int) - 1 := by have := HLS.out; simp [IntKind.wrap, IntKind.bits, IntKind.signed]; omega
 cases q3 : le.toList.isEmpty with
 | false =>
  have HN := mk0 (HV1.out (fun e => by rw [e, Lib.toList_data] at q3; revert q3; decide))
  go_wp2
  exact get3_panic (getR3_bad HSZ.out HN.out) HG2.out _ rfl rfl
 | true =>
 have HLE := mk0 (show le = ByteArray.empty from bytes_empty q3)
 go_upto_region 10 with (fail)
 clear hk hz2 q3
 obtain ⟨n, hn⟩ : ∃ n, L.length = n + 1 := ⟨L.length - 1, by omega⟩
 have hlt3 := blk_lt HLB.out
 have HF := mk0 (show FL w (((w2.alloc (.map #[] 0)).alloc (.map #[] 0)).alloc (.cells #[.string ⟨#[]⟩, .map (some w2.heap.size), .map (some (w2.heap.size + 1))] 92)) L bl w2.heap.size (w2.heap.size + 1) (w2.heap.size + 1 + 1) [] [] [] [] [] [] none 0 none 0 none 0 from by
  have b1 := aA_ (Below.refl w2.heap.size w2) (.map #[] 0)
  have b2 := aA_ (Below.refl (w2.alloc (.map #[] 0)).heap.size (w2.alloc (.map #[] 0))) (.map #[] 0)
  have b3 := aA_ (Below.refl ((w2.alloc (.map #[] 0)).alloc (.map #[] 0)).heap.size ((w2.alloc (.map #[] 0)).alloc (.map #[] 0))) (.cells #[.string ⟨#[]⟩, .map (some w2.heap.size), .map (some (w2.heap.size + 1))] 92)
  have hb := aM_ (aM_ b1 b1.size b2) (aM_ b1 b1.size b2).size b3
  have m1 := ((mapIs_new w2 Value.string ki sdom).below b2).below b3
  have m2 := (mapIs_new (w2.alloc (.map #[] 0)) Value.string ki sdom).below b3
  have e1 : (w2.alloc (.map #[] 0)).heap.size = w2.heap.size + 1 := by simp
  have e2 : ((w2.alloc (.map #[] 0)).alloc (.map #[] 0)).heap.size = w2.heap.size + 1 + 1 := by simp
  have hx := aU_ ((w2.alloc (.map #[] 0)).alloc (.map #[] 0)) (.cells #[.string ⟨#[]⟩, .map (some w2.heap.size), .map (some (w2.heap.size + 1))] 92)
  rw [e2] at hx
  rw [e1] at m2
  exact ⟨(HG2.out).below hb, aK_ HLB.out hb, ⟨hx⟩, m1, m2, Kd.R_nil _ _ _ _ _, Kd.R_nil _ _ _ _ _, Kd.R_nil _ _ _ _ _, by have := HBL.out; omega⟩)
 have HLT := mk0 hlt3
 clear hlt3 HG2 HLB HBL hmm
 generalize (((w2.alloc (.map #[] 0)).alloc (.map #[] 0)).alloc (.cells #[.string ⟨#[]⟩, .map (some w2.heap.size), .map (some (w2.heap.size + 1))] 92)) = w3 at *
 generalize w2.heap.size = B at *
 rw [hn] at HV2 HV3 HLEE HLS
 rw [show n + 1 - 1 = n from rfl] at HV2 HV3 HLEE
 have HLL := mk0 hn
 rw [hn, show ((n + 1 : Nat) : Int) = (n : Int) + 1 from by omega, show (n : Int) + 1 - 1 = (n : Int) by omega, show n + 1 - 1 = n from rfl]
 have hz1 : wrap64 (n : Int) = (n : Int) := wr_id (by omega) (by have := HLS.out; omega)
 have hz2 : (0 : Int) ≤ (n : Int) ∧ (n : Int) ≤ (n : Int) + 1 := by omega
 have hz3 : max (n : Int) 0 = (n : Int) := by omega
 clear hn hpos
 go_wp2
 clear hz1 hz2 hz3
 go_loopg [6, 7, 55] n (fun gg v6 v7 v55 wi => ∃ (i : Nat) (G : GSt) (A1 : Option Addr) (c1 : Nat) (A2 : Option Addr) (c2 : Nat) (A3 : Option Addr) (c3 : Nat), i ≤ n ∧ n - i ≤ gg ∧ v6 = .slice A3 G.bo.length c3 ∧ v7 = .bool G.large ∧ v55 = .int .i64 i ∧ Aside0 (lnAll ⟨[], [], [], false⟩ (L.take i) = some G) ∧ Aside0 (G.sy.length + G.fs.length = i ∧ G.bo.length = G.fs.length) ∧ Aside0 (FL w wi L bl B (B + 1) (B + 1 + 1) [] G.sy G.fs G.bo (nmE (G.sy.map (·.f0))) (nmE (G.fs.map (·.f0))) A1 c1 A2 c2 A3 c3))
 case atStart => exact ⟨0, ⟨[], [], [], false⟩, none, 0, none, 0, none, 0, Nat.zero_le _, Nat.le_refl _, rfl, rfl, rfl, ⟨rfl⟩, ⟨rfl, rfl⟩, HF⟩
 case round =>
  clear HF
  obtain ⟨i, G, A1, c1, A2, c2, A3, c3, hi, hgg, rfl, rfl, rfl, HG, HN, HF⟩ := hrel
  by_cases hlt : i < n
  ·have hltz : (i : Int) < (n : Int) := by omega
   have HIN := mk0 hlt
   have hk := strs_cell (HF.out).l (show i < L.length by have := HLL.out; omega)
   have HSB := mk0 (HCS.out i)
   have HTK := mk0 (show L.take (i + 1) = L.take i ++ [L.getD i ByteArray.empty] by
    have hi2 : i < L.length := by have := HLL.out; omega
    rw [List.take_succ_eq_append_getElem hi2, l18_, l17_ hi2]; rfl)
   generalize L.getD i ByteArray.empty = s at *
   have HSTEP := mk0 (show lnAll ⟨[], [], [], false⟩ (L.take (i + 1)) = lnStep G s by rw [HTK.out, lnAll_snoc, HG.out]; rfl)
   have HBAD := mk0 (fun (h : lnStep G s = none) => getR3_bad HSZ.out (HV2.out (lnAll_none HIN.out (by have := HLL.out; omega) (HSTEP.out.trans h))))
   have HKZ := mk0 (show wrap64 ((i : Int) + 1) = ((i + 1 : Nat) : Int) by rw [wr_id (by omega) (by have := HLS.out; omega)]; rfl)
   clear HTK
   have HP1 := mk0 (fun (W1 : World) => Tryz.strings_CutPrefix s ⟨#[115, 121, 109, 98, 111, 108, 32]⟩ W1)
   rw [show (ByteArray.mk #[115, 121, 109, 98, 111, 108, 32]).data.toList = pSym from rfl] at HP1
   go_wp2_with fail
   refine (HP1.out _).mono ?_
   rintro E w4 ⟨rfl, hw⟩
   subst hw
   have g1 := (HF.out).g.cells.2.1
   rcases line_cases s.data.toList G.fs.length with ⟨q1, hfz⟩ | ⟨q1, hfz⟩ | q1
   ··have hfzz : (G.fs.length : Int) = 0 := by omega
     have hsz : (ByteArray.mk (Lib.trimPrefix s.data.toList pSym).toArray).size ≤ 70000 := by
      show (Lib.trimPrefix s.data.toList pSym).toArray.size ≤ 70000
      rw [List.size_toArray]
      have := trim_len s.data.toList pSym
      rw [← Lib.size_eq] at this
      have := HSB.out; have := HSZ.out
      omega
     have HSY := mk0 (symbol_calls ⟨(Lib.trimPrefix s.data.toList pSym).toArray⟩ w4 hsz ((HM.out).below (HF.out).hb))
     rw [show (ByteArray.mk (Lib.trimPrefix s.data.toList pSym).toArray).data.toList = Lib.trimPrefix s.data.toList pSym from rfl] at HSY
     have HLN := mk0 (show lnStep G s = (symR (Lib.trimPrefix s.data.toList pSym)).map fun y => { G with sy := G.sy ++ [y] } by unfold lnStep; simp only; rw [if_pos ⟨q1, hfz⟩])
     have HFZ := mk0 hfz
     have HLX := mk0 (show (Lib.trimPrefix s.data.toList pSym).length ≤ s.size from by have := trim_len s.data.toList pSym; rw [← Lib.size_eq] at this; exact this)
     clear hsz
     generalize Lib.trimPrefix s.data.toList pSym = lx at *
     go_wp2_with fail
     refine (HSY.out).mono ?_
     rintro E w5 ⟨hb, hE⟩
     have HF5 := mk0 ((HF.out).below hb)
     clear hb HSY HF hk g1
     rcases hE with ⟨hn, rfl⟩ | ⟨y, hy, rfl⟩
     ·have HX := mk0 (HBAD.out (by rw [HLN.out, hn]; rfl))
      clear hn q1 hfz hfzz
      unfold pwrong
      go_wp2
      exact get3_panic HX.out (HF5.out).g _ rfl rfl
     ·have HGO := mk0 (show lnStep G s = some { G with sy := G.sy ++ [y] } by rw [HLN.out, hy]; rfl)
      have HYZ := mk0 (show y.f0.size ≤ 70000 by have := symR_size hy; have := HSB.out; have := HSZ.out; have := HLX.out; omega)
      have HSN := mk0 (show (G.sy ++ [y]).map (·.f0) = G.sy.map (·.f0) ++ [y.f0] by simp)
      have HSL := mk0 (show G.sy.length ≤ 70000 from by have := (HN.out).1; have := HLS.out; have := HIN.out; omega)
      clear hy q1 hfz hfzz HLN HBAD
      go_upto_region 16 with (fail)
      have HX6 := mk0 (aU_ w5 (.cells #[.string y.f0, .int .i64 y.f1] 71))
      have HF6 := mk0 ((HF5.out).below (aA_ (Below.refl w5.heap.size w5) (.cells #[.string y.f0, .int .i64 y.f1] 71)))
      have hb6 := (HF5.out).lt
      clear HF5
      generalize (w5.alloc (.cells #[.string y.f0, .int .i64 y.f1] 71)) = w6 at *
      have HBY := mk0 (show B + 1 + 1 < w5.heap.size ∧ w.heap.size + 2 ≤ B from ⟨hb6, by have := (HF6.out).n; omega⟩)
      clear hb6
      generalize w5.heap.size = by_ at *
      have hq1 := (HF6.out).rt.cells.2.1
      have x0 : w6.cell? ⟨by_, 0, none⟩ = some (.string y.f0) := (aC_ HX6.out 0).trans rfl
      have HDOM := mk0 (show sdom y.f0 from by unfold sdom maxLen; have := HYZ.out; omega)
      have hl : ∀ m, _ := fun m => MapIs.look ((HF6.out).m1.below (aB_ (Below.refl _ _) m)) keyStr Tryz.underlying90 (zero3 (w6.drewN m)) HDOM.out true
      cases qm : mget y.f0 (nmE (G.sy.map (·.f0))) with
      | none =>
       rw [qm] at hl
       simp only [if_true] at hl
       have HQM := mk0 qm
       clear qm
       go_quiet (fail)
       have HF7 := mk0 ((HF6.out).below (aB_ (Below.refl w6.heap.size w6) nq))
       have HX7 := mk0 (aK_ HX6.out (aB_ (Below.refl w6.heap.size w6) nq))
       clear HF6 HX6 hq1 x0 hl
       generalize w6.drewN nq = w7 at *
       go_upto_region 18 with (fail)
       have hq1 := (HF7.out).rt.cells.2.1
       have x0 : w7.cell? ⟨by_, 0, none⟩ = some (.string y.f0) := (aC_ HX7.out 0).trans rfl
       have d0 := (HF7.out).g.cells.1
       refine wp_region_still_tail 9 (by kernel_rfl) (by kernel_rfl) ?_
       simp only [List.take_succ_cons, List.take_zero, List.drop_succ_cons, List.drop_zero]
       repeat (refine wpStill_step (fun K hK => ?_); go_simp; refine hK _ ?_; clear hK K)
       refine wpStill_nil ?_
       change wpList _ _ _ _ _ w7.drew
       clear hq1 x0 d0
       have HF7d := mk0 ((HF7.out).below (below_drew (Below.refl _ _)))
       have HX7d := mk0 (aK_ HX7.out (below_drew (Below.refl _ _)))
       clear HF7 HX7
       generalize w7.drew = w7d at *
       obtain ⟨W8, hput, hm8, hg8⟩ := MapIs.put (HF7d.out).m1 keyStr Tryz.underlying90 HDOM.out (G.sy.length : Int)
       rw [show (G.sy.length : Int) = ((G.sy.map (·.f0)).length : Int) by rw [List.length_map], nmE_put HQM.out, ← HSN.out] at hm8
       unfold ki at hput
       have HF8 := mk0 ((HF7d.out).put1 hm8 hg8)
       have HX8 := mk0 (blk_grown HX7d.out hg8 (fun e => by have := l13_ e; have := (HBY.out).1; omega))
       clear hm8 hg8 HF7d HX7d
       have HLE7 := mk0 (show (G.sy.length + 1) * 24 ≤ 140737488355328 by have := HSL.out; omega)
       have d0 := (HF8.out).g.cells.1
       have x0 : W8.cell? ⟨by_, 0, none⟩ = some (.string y.f0) := (aC_ HX8.out 0).trans rfl
       have x1 : W8.cell? ⟨by_, 1, none⟩ = some (.int .i64 y.f1) := (aC_ HX8.out 1).trans rfl
       clear HX8
       go_wp2_with ((with_reducible refine gate_builtin (b := .append) (xs := #[.tmp 95, .tmp 97]) rfl ?_); at_builtin; refine Kd.R_append k71 (w0 := w) w.heap.size rfl (.tmp 95) (.tmp 97) 22 71 (.agg #[.string ⟨#[]⟩, .int .i64 0]) 24 rfl Tryz.underlying22 Q.info71 rfl (show 0 < 2 by decide) (by decide) (.slice A1 G.sy.length c1) G.sy y [.string y.f0, .int .i64 y.f1] (fun k => B + 1 + 1 < k) (fun _ => False) rfl rfl (Q.k71_mkM _ _ _ y) (fun _ hk => hk.elim) (fun k hk => l12_ (HF8.out).lt hk) (HF8.out).r1 (HF8.out).hb (HF8.out).hb.size HLE7.out ?_; intro v9 w9 ho5 hb5 hg5 hat5; (obtain ⟨A9, c9, rfl⟩ := Kd.R_slice ho5); have HF9 := mk0 ((HF8.out).push1 ho5 hb5 hg5); have hGG := (HF8.out).g.grown hb5 hg5 (fun k hk => by have := (HF8.out).r1.1 k hk; have := (HF8.out).n; omega); have c6 := hGG.cells.1; have f6 := hGG.frozen.1; clear hGG ho5 hb5 hg5 hat5)
       go_roundg (n - (i + 1))
       case measure => have := HIN.out; omega
       case rel => exact ⟨i + 1, { G with sy := G.sy ++ [y] }, A9, c9, A2, c2, A3, c3, HIN.out, Nat.le_refl _, rfl, rfl, by rw [HKZ.out], ⟨HSTEP.out.trans HGO.out⟩, ⟨by show (G.sy ++ [y]).length + G.fs.length = i + 1; have := (HN.out).1; rw [l7_, l10_]; omega, (HN.out).2⟩, HF9⟩
      | some v0 =>
       rw [qm] at hl
       simp only [if_true] at hl
       unfold ki at hl
       have HKE := mk0 (nmE_keep qm)
       rw [← HSN.out] at HKE
       clear qm
       go_quiet (fail)
       have HF8 := (HF6.out).below (aB_ (Below.refl w6.heap.size w6) nq)
       rw [HKE.out] at HF8
       have HF8 := mk0 HF8
       have HX8 := mk0 (aK_ HX6.out (aB_ (Below.refl w6.heap.size w6) nq))
       clear HF6 HX6 hq1 x0 hl HKE
       generalize w6.drewN nq = W8 at *
       have HLE7 := mk0 (show (G.sy.length + 1) * 24 ≤ 140737488355328 by have := HSL.out; omega)
       have d0 := (HF8.out).g.cells.1
       have x0 : W8.cell? ⟨by_, 0, none⟩ = some (.string y.f0) := (aC_ HX8.out 0).trans rfl
       have x1 : W8.cell? ⟨by_, 1, none⟩ = some (.int .i64 y.f1) := (aC_ HX8.out 1).trans rfl
       clear HX8
       go_wp2_with ((with_reducible refine gate_builtin (b := .append) (xs := #[.tmp 95, .tmp 97]) rfl ?_); at_builtin; refine Kd.R_append k71 (w0 := w) w.heap.size rfl (.tmp 95) (.tmp 97) 22 71 (.agg #[.string ⟨#[]⟩, .int .i64 0]) 24 rfl Tryz.underlying22 Q.info71 rfl (show 0 < 2 by decide) (by decide) (.slice A1 G.sy.length c1) G.sy y [.string y.f0, .int .i64 y.f1] (fun k => B + 1 + 1 < k) (fun _ => False) rfl rfl (Q.k71_mkM _ _ _ y) (fun _ hk => hk.elim) (fun k hk => l12_ (HF8.out).lt hk) (HF8.out).r1 (HF8.out).hb (HF8.out).hb.size HLE7.out ?_; intro v9 w9 ho5 hb5 hg5 hat5; (obtain ⟨A9, c9, rfl⟩ := Kd.R_slice ho5); have HF9 := mk0 ((HF8.out).push1 ho5 hb5 hg5); have hGG := (HF8.out).g.grown hb5 hg5 (fun k hk => by have := (HF8.out).r1.1 k hk; have := (HF8.out).n; omega); have c6 := hGG.cells.1; have f6 := hGG.frozen.1; clear hGG ho5 hb5 hg5 hat5)
       go_roundg (n - (i + 1))
       case measure => have := HIN.out; omega
       case rel => exact ⟨i + 1, { G with sy := G.sy ++ [y] }, A9, c9, A2, c2, A3, c3, HIN.out, Nat.le_refl _, rfl, rfl, by rw [HKZ.out], ⟨HSTEP.out.trans HGO.out⟩, ⟨by show (G.sy ++ [y]).length + G.fs.length = i + 1; have := (HN.out).1; rw [l7_, l10_]; omega, (HN.out).2⟩, HF9⟩
   all_goals
    have HLN := mk0 (lnStep_fun0 (g := G) (s := s) (by first | exact fun x => hfz x.2 | exact fun x => by rw [q1] at x; exact l16_ x.1))
    have HP2 := mk0 (fun (W1 : World) => Tryz.strings_CutPrefix s ⟨#[102, 117, 110, 32]⟩ W1)
    rw [show (ByteArray.mk #[102, 117, 110, 32]).data.toList = pFun from rfl] at HP2
    try (have hfzz : ((G.fs.length : Int) == 0) = false := by simpa using hfz)
    have HTL := mk0 (show (Lib.trimPrefix s.data.toList pFun).length ≤ 65536 from by have := trim_len s.data.toList pFun; rw [← Lib.size_eq] at this; have := HSB.out; have := HSZ.out; omega)
    unfold lnFun at HLN
    go_wp2_with fail
    refine (HP2.out _).mono ?_
    rintro E w5 ⟨rfl, hw⟩
    subst hw
    clear HP1 HP2 q1
    try clear hfzz
    try clear hfz
    generalize Lib.trimPrefix s.data.toList pFun = l0 at *
    generalize Lib.hasPrefix s.data.toList pFun = b0 at *
    have HC1 := mk0 (cut_calls ⟨l0.toArray⟩ ⟨#[32, 58, 32]⟩ w5 (by show l0.toArray.size ≤ 70000; rw [List.size_toArray]; have := HTL.out; omega) ((HM.out).below (HF.out).hb))
    rw [show (ByteArray.mk l0.toArray).data.toList = l0 from rfl, show (ByteArray.mk #[32, 58, 32]).data.toList = [32, 58, 32] from rfl] at HC1
    have HC1S := mk0 (cut_size l0 [32, 58, 32])
    clear hk g1
    generalize (Lib.cut l0 [32, 58, 32]).2.2 = b1 at *
    generalize (Lib.cut l0 [32, 58, 32]).2.1 = l1 at *
    generalize (Lib.cut l0 [32, 58, 32]).1 = n0 at *
    go_wp2_with fail
    refine (HC1.out).mono ?_
    rintro E w6 ⟨rfl, hb⟩
    have HF6 := mk0 ((HF.out).below hb)
    clear hb HF HC1
    have HC2 := mk0 (cut_calls ⟨l1.toArray⟩ ⟨#[32, 61, 32]⟩ w6 (by show l1.toArray.size ≤ 70000; rw [List.size_toArray]; have := HTL.out; have := HC1S.out; omega) ((HM.out).below (HF6.out).hb))
    rw [show (ByteArray.mk l1.toArray).data.toList = l1 from rfl, show (ByteArray.mk #[32, 61, 32]).data.toList = [32, 61, 32] from rfl] at HC2
    have HC2S := mk0 (cut_size l1 [32, 61, 32])
    generalize (Lib.cut l1 [32, 61, 32]).2.2 = b2 at *
    generalize (Lib.cut l1 [32, 61, 32]).2.1 = l2 at *
    generalize (Lib.cut l1 [32, 61, 32]).1 = so at *
    have HZO := mk0 (show (ByteArray.mk so.toArray).size ≤ 65536 from by show so.toArray.size ≤ 65536; rw [List.size_toArray]; have := HTL.out; have := (HC1S.out).2; have := (HC2S.out).1; omega)
    have HZN := mk0 (show (ByteArray.mk n0.toArray).size ≤ 65536 from by show n0.toArray.size ≤ 65536; rw [List.size_toArray]; have := HTL.out; have := (HC1S.out).1; omega)
    clear HTL HC1S HC2S
    go_wp2_with fail
    refine (HC2.out).mono ?_
    rintro E w7 ⟨rfl, hb⟩
    have HF7 := mk0 ((HF6.out).below hb)
    clear hb HF6 HC2
    generalize (ByteArray.mk n0.toArray) = nm at *
    generalize (ByteArray.mk so.toArray) = sb at *
    generalize (ByteArray.mk l2.toArray) = bt2 at *
    cases b0 with
    | false =>
     have HX := mk0 (HBAD.out (by rw [HLN.out, if_neg (fun x => l16_ x.1)]))
     go_wp2
     exact get3_panic HX.out (HF7.out).g _ rfl rfl
    | true =>
    cases b1 with
    | false =>
     have HX := mk0 (HBAD.out (by rw [HLN.out, if_neg (fun x => l16_ x.2.1)]))
     go_wp2
     exact get3_panic HX.out (HF7.out).g _ rfl rfl
    | true =>
    cases b2 with
    | false =>
     have HX := mk0 (HBAD.out (by rw [HLN.out, if_neg (fun x => l16_ x.2.2.1)]))
     go_wp2
     exact get3_panic HX.out (HF7.out).g _ rfl rfl
    | true =>
    have HNM := mk0 (name_calls nm w7)
    go_wp2_with fail
    refine (HNM.out).mono ?_
    rintro E w8 ⟨rfl, hb⟩
    have HF8 := mk0 ((HF7.out).below hb)
    clear hb HF7 HNM
    cases qn : nameB nm with
    | false =>
     have HX := mk0 (HBAD.out (by rw [HLN.out, if_neg (fun x => by rw [qn] at x; exact l16_ x.2.2.2)]))
     clear qn
     go_wp2
     exact get3_panic HX.out (HF8.out).g _ rfl rfl
    | true =>
    have HLN2 := mk0 (show lnStep G s = (if (getSR sb).1 = 4 then none else some { sy := G.sy, fs := G.fs ++ [⟨nm, (getSR sb).2, ⟨0, 0, []⟩⟩], bo := G.bo ++ [bt2], large := G.large || decide ((getSR sb).1 ≠ 0) }) by rw [HLN.out, if_pos ⟨by first | trivial | rfl, by first | trivial | rfl, by first | trivial | rfl, qn⟩])
    clear HLN qn
    have HGS := mk0 (gets_calls sb w8)
    unfold GetSE at HGS
    generalize (getSR sb).1 = er at *
    generalize (getSR sb).2 = srt at *
    go_wp2_with fail
    refine (HGS.out).mono ?_
    rintro E w9 ⟨A9, c9, rfl, hR, hb⟩
    have HF9 := mk0 ((HF8.out).below hb)
    have HR9 := mk0 (Kd.R_new' hR (Kd.R_lt (HF8.out).r2))
    have HSZ8 := mk0 (show B + 1 + 1 < w8.heap.size ∧ w.heap.size ≤ w8.heap.size from ⟨(HF8.out).lt, (HF8.out).hb.size⟩)
    have HSZ9 := mk0 hb.size
    clear hb hR HF8 HGS
    go_upto_region 26 with (fail)
    have bx := aA_ (Below.refl w9.heap.size w9) (.cells #[.slice A9 srt.f0.length c9] 47)
    have HX10 := mk0 (aU_ w9 (.cells #[.slice A9 srt.f0.length c9] 47))
    have HF10 := mk0 ((HF9.out).below bx)
    have HR10 := mk0 (Kd.R_lower (base' := w.heap.size) (Kd.R_mono (ok' := fun k => B + 1 + 1 < k ∧ some k ≠ (Value.slice A2 G.fs.length c2).ownBlock) (Kd.R_below HR9.out bx) (fun k hk => ⟨by have := HSZ8.out; omega, hk.2⟩)) (HSZ8.out).2)
    have HBX := mk0 (show B + 1 + 1 < w9.heap.size from by have := HSZ8.out; have := HSZ9.out; omega)
    clear bx HF9 HR9 HSZ8 HSZ9
    generalize (w9.alloc (.cells #[.slice A9 srt.f0.length c9] 47)) = w10 at *
    generalize w9.heap.size = bx at *
    by_cases h4 : er = 4
    ·have HX := mk0 (HBAD.out (by rw [HLN2.out, if_pos h4]))
     subst h4
     go_wp2
     exact get3_panic HX.out (HF10.out).g _ rfl rfl
    ·have HGO := mk0 (HLN2.out.trans (if_neg h4))
     have h4z : (er == 4) = false := by simpa using h4
     have HFSL := mk0 (show G.fs.length ≤ 70000 from by have := (HN.out).1; have := HLS.out; have := HIN.out; omega)
     clear HLN2 HBAD
     go_upto_region 28 with (fail)
     clear h4 h4z
     generalize hlv : (G.large || decide (er ≠ 0)) = lg at *
     have HLG := mk0 hlv
     clear hlv
     go_cut [7] from 57 to 178 (fun v7 wx => v7 = .bool lg ∧ wx = w10)
     case first =>
      cases hlg : G.large with
      | true =>
       go_wp2
       go_meet
       exact ⟨by rw [← HLG.out, hlg]; rfl, rfl⟩
      | false =>
       by_cases h0 : er = 0
       ·subst h0
        go_wp2
        go_meet
        exact ⟨by rw [← HLG.out, hlg]; rfl, rfl⟩
       ·have h0z : (er == 0) = false := by simpa using h0
        have h0y : (er != 0) = true := by simpa using h0
        go_wp2
        go_meet
        exact ⟨by rw [← HLG.out, hlg, l2_ h0]; rfl, rfl⟩
     case rest =>
     obtain ⟨e7, ew⟩ := hcut
     replace ew := ew.symm
     subst ew
     subst e7
     have hq1 := (HF10.out).rt.cells.2.2
     have HDOM := mk0 (show sdom nm from by unfold sdom maxLen; have := HZN.out; omega)
     have hl : (Instr.lookup 90 (.map (some (B + 1))) (.string nm) true).run Tryz.prog w10 = .ok (.tuple #[.int .i64 ((mget nm (nmE (G.fs.map (·.f0)))).getD 0), .bool (mget nm (nmE (G.fs.map (·.f0)))).isSome]) w10 := by
      have h := MapIs.look (HF10.out).m2 keyStr Tryz.underlying90 (zero3 w10) HDOM.out true
      rw [h]
      cases mget nm (nmE (G.fs.map (·.f0))) with
      | none => rfl
      | some v => rfl
     have HQN := mk0 (fun (h : (mget nm (nmE (G.fs.map (·.f0)))).isSome = false) => (show mget nm (nmE (G.fs.map (·.f0))) = none from by cases e : mget nm (nmE (G.fs.map (·.f0))) with | none => rfl | some v => rw [e] at h; cases h))
     have HQS := mk0 (fun (h : (mget nm (nmE (G.fs.map (·.f0)))).isSome = true) => (show ∃ v, mget nm (nmE (G.fs.map (·.f0))) = some v from Option.isSome_iff_exists.1 h))
     generalize (mget nm (nmE (G.fs.map (·.f0)))).isSome = bs at *
     generalize (mget nm (nmE (G.fs.map (·.f0)))).getD 0 = vs at *
     have HSN := mk0 (show (G.fs ++ [(⟨nm, srt, ⟨0, 0, []⟩⟩ : S52)]).map (·.f0) = G.fs.map (·.f0) ++ [nm] by simp)
     go_upto_if 158 with (fail)
     clear hq1 hl
     have HF11 := HF10
     have HX11 := HX10
     have HR11 := HR10
     clear HF10 HX10 HR10
     generalize w10 = w11 at *
     go_cut [] from 57 to 178 (fun wx => Aside0 (FL w wx L bl B (B + 1) (B + 1 + 1) [] G.sy G.fs G.bo (nmE (G.sy.map (·.f0))) (nmE ((G.fs ++ [(⟨nm, srt, ⟨0, 0, []⟩⟩ : S52)]).map (·.f0))) A1 c1 A2 c2 A3 c3) ∧ Aside0 (wx.heap[bx]? = some (.cells #[.slice A9 srt.f0.length c9] 47 (0, 0))) ∧ Aside0 (Kd.R k47 47 wx w.heap.size (fun k => B + 1 + 1 < k ∧ some k ≠ (Value.slice A2 G.fs.length c2).ownBlock) (.slice A9 srt.f0.length c9) srt.f0))
     case first =>
      cases bs with
      | true =>
       obtain ⟨v, hv⟩ := HQS.out rfl
       have HKE := mk0 (nmE_keep hv)
       rw [← HSN.out] at HKE
       have HF12 := HF11.out
       rw [HKE.out] at HF12
       have HF12 := mk0 HF12
       clear hv
       go_wp2
       go_meet
       exact ⟨HF12, HX11, HR11⟩
      | false =>
       have HQM := mk0 (HQN.out rfl)
       go_upto_region 31 with (fail)
       have hq1 := (HF11.out).rt.cells.2.2
       have d0 := (HF11.out).g.cells.2.1
       refine wp_region_still_tail 8 (by kernel_rfl) (by kernel_rfl) ?_
       simp only [List.take_succ_cons, List.take_zero, List.drop_succ_cons, List.drop_zero]
       repeat (refine wpStill_step (fun K hK => ?_); go_simp; refine hK _ ?_; clear hK K)
       refine wpStill_nil ?_
       change wpList _ _ _ _ _ w11.drew
       clear hq1 d0
       have HF7d := mk0 ((HF11.out).below (below_drew (Below.refl _ _)))
       have HX7d := mk0 (aK_ HX11.out (below_drew (Below.refl _ _)))
       have HR7d := mk0 (Kd.R_below HR11.out (below_drew (Below.refl _ _)))
       clear HF11 HX11 HR11
       generalize w11.drew = w7d at *
       obtain ⟨W8, hput, hm8, hg8⟩ := MapIs.put (HF7d.out).m2 keyStr Tryz.underlying90 HDOM.out (G.fs.length : Int)
       rw [show (G.fs.length : Int) = ((G.fs.map (·.f0)).length : Int) by rw [List.length_map], nmE_put HQM.out, ← HSN.out] at hm8
       unfold ki at hput
       have HF8 := mk0 ((HF7d.out).put2 hm8 hg8)
       have HX8 := mk0 (blk_grown HX7d.out hg8 (fun e => by have := l13_ e; have := HBX.out; omega))
       have HR8 := mk0 (Kd.R_grown HR7d.out hg8 (fun k hk e => by have := l13_ e; have := hk.1; omega))
       clear hm8 hg8 HF7d HX7d HR7d
       go_wp2
       go_meet
       exact ⟨HF8, HX8, HR8⟩
     case rest =>
     clear HF11 HX11 HR11 HQN HQS
     obtain ⟨HF12, HX12, HR12⟩ := hcut
     generalize wc = wx at *
     have x0 : wx.cell? ⟨bx, 0, none⟩ = some (.slice A9 srt.f0.length c9) := (aC_ HX12.out 0).trans rfl
     have d1 := (HF12.out).g.cells.2.1
     have HLE7 := mk0 (show (G.fs.length + 1) * 80 ≤ 140737488355328 by have := HFSL.out; omega)
     have HLE8 := mk0 (show (G.bo.length + 1) * 16 ≤ 140737488355328 by have := HFSL.out; have := (HN.out).2; omega)
     have hbx0 := HBX.out
     clear HX12
     go_wp2_with (first
      | ((with_reducible refine gate_builtin (b := .append) (xs := #[.tmp 168, .tmp 172]) rfl ?_); at_builtin; refine Kd.R_append k52 (w0 := w) w.heap.size rfl (.tmp 168) (.tmp 172) 23 52 (.agg #[.string ⟨#[]⟩, .slice none 0 0, .int .i64 0, .int .i64 0, .slice none 0 0]) 80 rfl Tryz.underlying23 Q.info52 rfl (show 0 < 5 by decide) (by decide) (.slice A2 G.fs.length c2) G.fs ⟨nm, srt, ⟨0, 0, []⟩⟩ [.string nm, .slice A9 srt.f0.length c9, .int .i64 0, .int .i64 0, .slice none 0 0] (fun k => B + 1 + 1 < k) (fun k => B + 1 + 1 < k ∧ some k ≠ (Value.slice A2 G.fs.length c2).ownBlock) rfl rfl (Q.k52_mkM _ _ _ ⟨nm, srt, ⟨0, 0, []⟩⟩ HR12.out (Kd.R_nil _ _ _ _ _)) (fun _ hk => hk) (fun k hk => l12_ (HF12.out).lt hk) (HF12.out).r2 (HF12.out).hb (HF12.out).hb.size HLE7.out ?_; intro v13 w13 ho5 hb5 hg5 hat5; (obtain ⟨A5, c5, rfl⟩ := Kd.R_slice ho5); have HF13 := mk0 ((HF12.out).push2 ho5 hb5 hg5); have hGG := (HF12.out).g.grown hb5 hg5 (fun k hk => by have := (HF12.out).r2.1 k hk; have := (HF12.out).n; omega); have c6 := hGG.cells.2.1; have f6 := hGG.frozen.2.1; clear hGG ho5 hb5 hg5 hat5)
      | ((with_reducible refine gate_builtin (b := .append) (xs := #[.tmp 175, .tmp 177]) rfl ?_); at_builtin; refine Kd.R_append Kd.string (w0 := w) w.heap.size rfl (.tmp 175) (.tmp 177) 87 9 (.string ⟨#[]⟩) 16 rfl Tryz.underlying87 info9 rfl (show 0 < 1 by decide) (by decide) (.slice A3 G.bo.length c3) G.bo bt2 [.string bt2] (fun k => B + 1 + 1 < k) (fun _ => False) rfl (by first | rfl | (show Value.slice (some ⟨w13.heap.size, 0, none⟩) 1 1 = _; simp; done) | (show Value.slice (some ⟨w13.heap.size, 0, none⟩) 1 1 = _; simp [World.setCell]; done)) rfl (fun _ hk => hk.elim) (fun k hk => l12_ (HF13.out).lt hk) (HF13.out).r3 (HF13.out).hb (HF13.out).hb.size HLE8.out ?_; intro v15 w15 ho5 hb5 hg5 hat5; (obtain ⟨A6, c6, rfl⟩ := Kd.R_slice ho5); have HF15 := mk0 ((HF13.out).push3 ho5 hb5 hg5); clear ho5 hb5 hg5 hat5)
      | fail)
     go_roundg (n - (i + 1))
     case measure => have := HIN.out; omega
     case rel => exact ⟨i + 1, { sy := G.sy, fs := G.fs ++ [⟨nm, srt, ⟨0, 0, []⟩⟩], bo := G.bo ++ [bt2], large := lg }, A1, c1, A5, c5, A6, c6, HIN.out, Nat.le_refl _, by show _ = Value.slice A6 (G.bo ++ [bt2]).length c6; rw [l7_]; rfl, rfl, by rw [HKZ.out], ⟨HSTEP.out.trans HGO.out⟩, ⟨by show G.sy.length + (G.fs ++ [_]).length = i + 1; have := (HN.out).1; rw [l7_, l10_]; omega, by show (G.bo ++ [bt2]).length = (G.fs ++ [_]).length; have := (HN.out).2; rw [l7_, l7_, l10_, l10_]; omega⟩, HF15⟩
  ·obtain rfl : n = i := by omega
   have HVV := mk0 (HV3.out HLE.out G HG.out)
   have HLS2 := mk0 (show G.bo.length ≤ 70000 from by have := (HN.out).1; have := (HN.out).2; have := HLS.out; omega)
   have HNB := mk0 (HN.out).2
   have HBZ := mk0 (lnAll_bo (m := 65536) _ _ _ (fun s hs => by
    obtain ⟨q, hq, rfl⟩ := List.getElem_of_mem (List.mem_of_mem_take hs)
    have h1 := HCS.out q
    rw [l18_, l17_ hq] at h1
    have := HSZ.out
    simp only [Option.getD_some] at h1
    omega) (by simp) HG.out)
   clear HV1 HV2 HV3 HG HN hi hgg hlt HCS HLEE HLE HLL HLT hmf
   go_wp2
   go_loopg [182] G.bo.length (fun gg v182 wi => ∃ (j : Nat) (dn : List S52), j ≤ G.bo.length ∧ G.bo.length - j ≤ gg ∧ v182 = .int .i64 j ∧ Aside0 (dn.length = j) ∧ Aside0 (boAll (nmE (G.sy.map (·.f0))) (nmE (G.fs.map (·.f0))) G.fs G.bo = (boAll (nmE (G.sy.map (·.f0))) (nmE (G.fs.map (·.f0))) (G.fs.drop j) (G.bo.drop j)).map (dn ++ ·)) ∧ Aside0 (FL w wi L bl B (B + 1) (B + 1 + 1) [] G.sy (dn ++ G.fs.drop j) G.bo (nmE (G.sy.map (·.f0))) (nmE (G.fs.map (·.f0))) A1 c1 A2 c2 A3 c3))
   case atStart => exact ⟨0, [], Nat.zero_le _, Nat.le_refl _, rfl, ⟨rfl⟩, ⟨by simp⟩, HF⟩
   case round =>
    clear HF
    obtain ⟨j, dn, hj, hgg, rfl, HDN, HBO, HF⟩ := hrel
    by_cases hlt : j < G.bo.length
    ·have hltz : (j : Int) < (G.bo.length : Int) := by omega
     have HLT := mk0 hlt
     have HNX := mk0 (boAll_next (e1 := nmE (G.sy.map (·.f0))) (e2 := nmE (G.fs.map (·.f0))) hlt HNB.out HDN.out)
     have HSX := mk0 (fun x => set_next (fs := G.fs) HDN.out (by have := HNB.out; omega) x)
     have HGX := mk0 (get_next (fs := G.fs) HDN.out (by have := HNB.out; omega))
     have HFLN := mk0 (show (dn ++ G.fs.drop j).length = G.fs.length by have := HDN.out; have := HNB.out; rw [l7_, l9_]; omega)
     have HKZ := mk0 (show wrap64 ((j : Int) + 1) = ((j + 1 : Nat) : Int) by rw [wr_id (by omega) (by have := HLS2.out; omega)]; rfl)
     have HBS := mk0 (show (G.bo.getD j ByteArray.empty).size ≤ 65536 from (HBZ.out) _ (by rw [l18_, l17_ hlt]; exact l11_ hlt))
     obtain ⟨g3, cap3, e3, _⟩ := Kd.R_form (HF.out).r3 (show 0 < G.bo.length by omega)
     injection e3 with e31 _ e33
     subst e31
     subst e33
     have hk : wr.cell? ⟨g3, j, none⟩ = some (.string (G.bo.getD j ByteArray.empty)) := (Kd.R_celln ByteArray.empty (HF.out).r3 (j : Int) (by omega) hltz).1
     generalize G.bo.getD j ByteArray.empty = bj at *
     have hdl : 0 < (dn ++ G.fs.drop j).length := by have := HFLN.out; have := HNB.out; omega
     obtain ⟨g2, cap2, e2, _⟩ := Kd.R_form (HF.out).r2 hdl
     injection e2 with e21 _ e23
     subst e21
     subst e23
     generalize hF0 : dn ++ G.fs.drop j = F at *
     have hb0 := (HF.out).rt.cells.1.1
     have hb1 := (HF.out).rt.cells.1.2
     go_upto_region 39 with (fail)
     have HF2 := mk0 ((HF.out).setT bj)
     clear hb0 hb1 hk hdl HF
     generalize wr.setCell ⟨B + 1 + 1, 0, none⟩ (.string bj) = w5 at *
     have hd := below_drew (Below.refl w5.heap.size w5)
     have HFD := mk0 ((HF2.out).below hd)
     have HTM := mk0 (rtm_calls (B + 1 + 1) B (B + 1) (nmE (G.sy.map (·.f0))) (nmE (G.fs.map (·.f0))) 70000 bj.data.toList w5.drew (by rw [← Lib.size_eq]; have := HBS.out; omega) (Nat.le_refl _) (HFD.out).rm)
     have HOLD := mk0 (HF2.out).g.cells.2.1
     cases qt : tmR (nmE (G.sy.map (·.f0))) (nmE (G.fs.map (·.f0))) bj.data.toList with
     | none =>
      have HX := mk0 (getR3_bad HSZ.out (HVV.out.trans (by rw [HBO.out, HNX.out, qt]; rfl)))
      have HC := mk0 ((HTM.out).mono (R' := fun E w' => E = pwrong ∧ KR (B + 1 + 1) w5.drew w') (fun E w' hE => by
       obtain ⟨hk, ⟨_, rfl⟩ | ⟨t4, r4, v4, hv, _⟩⟩ := hE
       ·exact ⟨rfl, hk⟩
       ·rw [qt] at hv; cases hv))
      clear qt HTM
      unfold pwrong at HC
      have d1 := (HF2.out).g.cells.2.1
      have d2 := aP_ hd d1
      clear hd
      refine wp_region_any (by kernel_rfl) ?_
      change wpAny _ _ _ _ _ _ _ (World.drew _)
      refine wpAny_ready (rs := [0, 2, 3]) (by kernel_rfl) (by simp) ?_
      refine AllReady.cons rfl (fun K hK => ?_) ?_
      ·go_simp
       refine hK _ _ ?_
       clear hK K
       refine wpAny_ready (rs := [1, 2, 3]) (by kernel_rfl) (by simp) ?_
       refine AllReady.cons rfl (fun K hK => ?_) ?_
       ·go_simp
        refine hK _ _ ?_
        clear hK K
        refine wpAny_ready (rs := [2, 3]) (by kernel_rfl) (by simp) ?_
        refine AllReady.cons rfl (fun K hK => ?_) ?_
        ·go_simp
         refine hK _ _ ?_
         clear hK K
         refine wpAny_ready (rs := [3]) (by kernel_rfl) (by simp) ?_
         refine AllReady.cons rfl (fun K hK => ?_) ?_
         ·go_simp
          refine hK _ _ ?_
          clear hK K
          refine wpAny_ready (rs := [4]) (by kernel_rfl) (by simp) ?_
          refine AllReady.cons rfl (fun K hK => ?_) ?_
          ·go_simp
           go_wp2_with (go_at_call 60; refine (HC.out).mono ?_; rintro E w8 ⟨rfl, hk⟩; exact get3_panic HX.out ((HFD.out).gone hk) _ rfl rfl)
          exact AllReady.nil
         exact AllReady.nil
        refine AllReady.cons rfl (fun K hK => ?_) ?_
        ·go_simp
         refine hK _ _ ?_
         clear hK K
         refine wpAny_ready (rs := [2, 4]) (by kernel_rfl) (by simp) ?_
         refine AllReady.cons rfl (fun K hK => ?_) ?_
         ·go_simp
          refine hK _ _ ?_
          clear hK K
          refine wpAny_ready (rs := [4]) (by kernel_rfl) (by simp) ?_
          refine AllReady.cons rfl (fun K hK => ?_) ?_
          ·go_simp
           go_wp2_with (go_at_call 60; refine (HC.out).mono ?_; rintro E w8 ⟨rfl, hk⟩; exact get3_panic HX.out ((HFD.out).gone hk) _ rfl rfl)
          exact AllReady.nil
         refine AllReady.cons rfl (fun K hK => ?_) ?_
         ·go_simp
          go_wp2_with (go_at_call 60; refine (HC.out).mono ?_; rintro E w8 ⟨rfl, hk⟩; exact get3_panic HX.out ((HFD.out).gone hk) _ rfl rfl)
         exact AllReady.nil
        exact AllReady.nil
       refine AllReady.cons rfl (fun K hK => ?_) ?_
       ·go_simp
        refine hK _ _ ?_
        clear hK K
        refine wpAny_ready (rs := [1, 3]) (by kernel_rfl) (by simp) ?_
        refine AllReady.cons rfl (fun K hK => ?_) ?_
        ·go_simp
         refine hK _ _ ?_
         clear hK K
         refine wpAny_ready (rs := [3]) (by kernel_rfl) (by simp) ?_
         refine AllReady.cons rfl (fun K hK => ?_) ?_
         ·go_simp
          refine hK _ _ ?_
          clear hK K
          refine wpAny_ready (rs := [4]) (by kernel_rfl) (by simp) ?_
          refine AllReady.cons rfl (fun K hK => ?_) ?_
          ·go_simp
           go_wp2_with (go_at_call 60; refine (HC.out).mono ?_; rintro E w8 ⟨rfl, hk⟩; exact get3_panic HX.out ((HFD.out).gone hk) _ rfl rfl)
          exact AllReady.nil
         exact AllReady.nil
        refine AllReady.cons rfl (fun K hK => ?_) ?_
        ·go_simp
         refine hK _ _ ?_
         clear hK K
         refine wpAny_ready (rs := [1, 4]) (by kernel_rfl) (by simp) ?_
         refine AllReady.cons rfl (fun K hK => ?_) ?_
         ·go_simp
          refine hK _ _ ?_
          clear hK K
          refine wpAny_ready (rs := [4]) (by kernel_rfl) (by simp) ?_
          refine AllReady.cons rfl (fun K hK => ?_) ?_
          ·go_simp
           go_wp2_with (go_at_call 60; refine (HC.out).mono ?_; rintro E w8 ⟨rfl, hk⟩; exact get3_panic HX.out ((HFD.out).gone hk) _ rfl rfl)
          exact AllReady.nil
         refine AllReady.cons rfl (fun K hK => ?_) ?_
         ·go_simp
          go_wp2_with (go_at_call 60; refine (HC.out).mono ?_; rintro E w8 ⟨rfl, hk⟩; exact get3_panic HX.out ((HFD.out).gone hk) _ rfl rfl)
         exact AllReady.nil
        exact AllReady.nil
       refine AllReady.cons rfl (fun K hK => ?_) ?_
       ·go_simp
        refine hK _ _ ?_
        clear hK K
        refine wpAny_ready (rs := [1, 2, 4]) (by kernel_rfl) (by simp) ?_
        refine AllReady.cons rfl (fun K hK => ?_) ?_
        ·go_simp
         refine hK _ _ ?_
         clear hK K
         refine wpAny_ready (rs := [2, 4]) (by kernel_rfl) (by simp) ?_
         refine AllReady.cons rfl (fun K hK => ?_) ?_
         ·go_simp
          refine hK _ _ ?_
          clear hK K
          refine wpAny_ready (rs := [4]) (by kernel_rfl) (by simp) ?_
          refine AllReady.cons rfl (fun K hK => ?_) ?_
          ·go_simp
           go_wp2_with (go_at_call 60; refine (HC.out).mono ?_; rintro E w8 ⟨rfl, hk⟩; exact get3_panic HX.out ((HFD.out).gone hk) _ rfl rfl)
          exact AllReady.nil
         refine AllReady.cons rfl (fun K hK => ?_) ?_
         ·go_simp
          go_wp2_with (go_at_call 60; refine (HC.out).mono ?_; rintro E w8 ⟨rfl, hk⟩; exact get3_panic HX.out ((HFD.out).gone hk) _ rfl rfl)
         exact AllReady.nil
        refine AllReady.cons rfl (fun K hK => ?_) ?_
        ·go_simp
         refine hK _ _ ?_
         clear hK K
         refine wpAny_ready (rs := [1, 4]) (by kernel_rfl) (by simp) ?_
         refine AllReady.cons rfl (fun K hK => ?_) ?_
         ·go_simp
          refine hK _ _ ?_
          clear hK K
          refine wpAny_ready (rs := [4]) (by kernel_rfl) (by simp) ?_
          refine AllReady.cons rfl (fun K hK => ?_) ?_
          ·go_simp
           go_wp2_with (go_at_call 60; refine (HC.out).mono ?_; rintro E w8 ⟨rfl, hk⟩; exact get3_panic HX.out ((HFD.out).gone hk) _ rfl rfl)
          exact AllReady.nil
         refine AllReady.cons rfl (fun K hK => ?_) ?_
         ·go_simp
          go_wp2_with (go_at_call 60; refine (HC.out).mono ?_; rintro E w8 ⟨rfl, hk⟩; exact get3_panic HX.out ((HFD.out).gone hk) _ rfl rfl)
         exact AllReady.nil
        refine AllReady.cons rfl (fun K hK => ?_) ?_
        ·go_simp
         go_wp2_with (go_at_call 60; refine (HC.out).mono ?_; rintro E w8 ⟨rfl, hk⟩; exact get3_panic HX.out ((HFD.out).gone hk) _ rfl rfl)
        exact AllReady.nil
       exact AllReady.nil
      refine AllReady.cons rfl (fun K hK => ?_) ?_
      ·go_simp
       refine hK _ _ ?_
       clear hK K
       refine wpAny_ready (rs := [0, 3]) (by kernel_rfl) (by simp) ?_
       refine AllReady.cons rfl (fun K hK => ?_) ?_
       ·go_simp
        refine hK _ _ ?_
        clear hK K
        refine wpAny_ready (rs := [1, 3]) (by kernel_rfl) (by simp) ?_
        refine AllReady.cons rfl (fun K hK => ?_) ?_
        ·go_simp
         refine hK _ _ ?_
         clear hK K
         refine wpAny_ready (rs := [3]) (by kernel_rfl) (by simp) ?_
         refine AllReady.cons rfl (fun K hK => ?_) ?_
         ·go_simp
          refine hK _ _ ?_
          clear hK K
          refine wpAny_ready (rs := [4]) (by kernel_rfl) (by simp) ?_
          refine AllReady.cons rfl (fun K hK => ?_) ?_
          ·go_simp
           go_wp2_with (go_at_call 60; refine (HC.out).mono ?_; rintro E w8 ⟨rfl, hk⟩; exact get3_panic HX.out ((HFD.out).gone hk) _ rfl rfl)
          exact AllReady.nil
         exact AllReady.nil
        refine AllReady.cons rfl (fun K hK => ?_) ?_
        ·go_simp
         refine hK _ _ ?_
         clear hK K
         refine wpAny_ready (rs := [1, 4]) (by kernel_rfl) (by simp) ?_
         refine AllReady.cons rfl (fun K hK => ?_) ?_
         ·go_simp
          refine hK _ _ ?_
          clear hK K
          refine wpAny_ready (rs := [4]) (by kernel_rfl) (by simp) ?_
          refine AllReady.cons rfl (fun K hK => ?_) ?_
          ·go_simp
           go_wp2_with (go_at_call 60; refine (HC.out).mono ?_; rintro E w8 ⟨rfl, hk⟩; exact get3_panic HX.out ((HFD.out).gone hk) _ rfl rfl)
          exact AllReady.nil
         refine AllReady.cons rfl (fun K hK => ?_) ?_
         ·go_simp
          go_wp2_with (go_at_call 60; refine (HC.out).mono ?_; rintro E w8 ⟨rfl, hk⟩; exact get3_panic HX.out ((HFD.out).gone hk) _ rfl rfl)
         exact AllReady.nil
        exact AllReady.nil
       refine AllReady.cons rfl (fun K hK => ?_) ?_
       ·go_simp
        refine hK _ _ ?_
        clear hK K
        refine wpAny_ready (rs := [0, 4]) (by kernel_rfl) (by simp) ?_
        refine AllReady.cons rfl (fun K hK => ?_) ?_
        ·go_simp
         refine hK _ _ ?_
         clear hK K
         refine wpAny_ready (rs := [1, 4]) (by kernel_rfl) (by simp) ?_
         refine AllReady.cons rfl (fun K hK => ?_) ?_
         ·go_simp
          refine hK _ _ ?_
          clear hK K
          refine wpAny_ready (rs := [4]) (by kernel_rfl) (by simp) ?_
          refine AllReady.cons rfl (fun K hK => ?_) ?_
          ·go_simp
           go_wp2_with (go_at_call 60; refine (HC.out).mono ?_; rintro E w8 ⟨rfl, hk⟩; exact get3_panic HX.out ((HFD.out).gone hk) _ rfl rfl)
          exact AllReady.nil
         refine AllReady.cons rfl (fun K hK => ?_) ?_
         ·go_simp
          go_wp2_with (go_at_call 60; refine (HC.out).mono ?_; rintro E w8 ⟨rfl, hk⟩; exact get3_panic HX.out ((HFD.out).gone hk) _ rfl rfl)
         exact AllReady.nil
        refine AllReady.cons rfl (fun K hK => ?_) ?_
        ·go_simp
         go_wp2_with (go_at_call 60; refine (HC.out).mono ?_; rintro E w8 ⟨rfl, hk⟩; exact get3_panic HX.out ((HFD.out).gone hk) _ rfl rfl)
        exact AllReady.nil
       exact AllReady.nil
      refine AllReady.cons rfl (fun K hK => ?_) ?_
      ·go_simp
       refine hK _ _ ?_
       clear hK K
       refine wpAny_ready (rs := [0, 2, 4]) (by kernel_rfl) (by simp) ?_
       refine AllReady.cons rfl (fun K hK => ?_) ?_
       ·go_simp
        refine hK _ _ ?_
        clear hK K
        refine wpAny_ready (rs := [1, 2, 4]) (by kernel_rfl) (by simp) ?_
        refine AllReady.cons rfl (fun K hK => ?_) ?_
        ·go_simp
         refine hK _ _ ?_
         clear hK K
         refine wpAny_ready (rs := [2, 4]) (by kernel_rfl) (by simp) ?_
         refine AllReady.cons rfl (fun K hK => ?_) ?_
         ·go_simp
          refine hK _ _ ?_
          clear hK K
          refine wpAny_ready (rs := [4]) (by kernel_rfl) (by simp) ?_
          refine AllReady.cons rfl (fun K hK => ?_) ?_
          ·go_simp
           go_wp2_with (go_at_call 60; refine (HC.out).mono ?_; rintro E w8 ⟨rfl, hk⟩; exact get3_panic HX.out ((HFD.out).gone hk) _ rfl rfl)
          exact AllReady.nil
         refine AllReady.cons rfl (fun K hK => ?_) ?_
         ·go_simp
          go_wp2_with (go_at_call 60; refine (HC.out).mono ?_; rintro E w8 ⟨rfl, hk⟩; exact get3_panic HX.out ((HFD.out).gone hk) _ rfl rfl)
         exact AllReady.nil
        refine AllReady.cons rfl (fun K hK => ?_) ?_
        ·go_simp
         refine hK _ _ ?_
         clear hK K
         refine wpAny_ready (rs := [1, 4]) (by kernel_rfl) (by simp) ?_
         refine AllReady.cons rfl (fun K hK => ?_) ?_
         ·go_simp
          refine hK _ _ ?_
          clear hK K
          refine wpAny_ready (rs := [4]) (by kernel_rfl) (by simp) ?_
          refine AllReady.cons rfl (fun K hK => ?_) ?_
          ·go_simp
           go_wp2_with (go_at_call 60; refine (HC.out).mono ?_; rintro E w8 ⟨rfl, hk⟩; exact get3_panic HX.out ((HFD.out).gone hk) _ rfl rfl)
          exact AllReady.nil
         refine AllReady.cons rfl (fun K hK => ?_) ?_
         ·go_simp
          go_wp2_with (go_at_call 60; refine (HC.out).mono ?_; rintro E w8 ⟨rfl, hk⟩; exact get3_panic HX.out ((HFD.out).gone hk) _ rfl rfl)
         exact AllReady.nil
        refine AllReady.cons rfl (fun K hK => ?_) ?_
        ·go_simp
         go_wp2_with (go_at_call 60; refine (HC.out).mono ?_; rintro E w8 ⟨rfl, hk⟩; exact get3_panic HX.out ((HFD.out).gone hk) _ rfl rfl)
        exact AllReady.nil
       refine AllReady.cons rfl (fun K hK => ?_) ?_
       ·go_simp
        refine hK _ _ ?_
        clear hK K
        refine wpAny_ready (rs := [0, 4]) (by kernel_rfl) (by simp) ?_
        refine AllReady.cons rfl (fun K hK => ?_) ?_
        ·go_simp
         refine hK _ _ ?_
         clear hK K
         refine wpAny_ready (rs := [1, 4]) (by kernel_rfl) (by simp) ?_
         refine AllReady.cons rfl (fun K hK => ?_) ?_
         ·go_simp
          refine hK _ _ ?_
          clear hK K
          refine wpAny_ready (rs := [4]) (by kernel_rfl) (by simp) ?_
          refine AllReady.cons rfl (fun K hK => ?_) ?_
          ·go_simp
           go_wp2_with (go_at_call 60; refine (HC.out).mono ?_; rintro E w8 ⟨rfl, hk⟩; exact get3_panic HX.out ((HFD.out).gone hk) _ rfl rfl)
          exact AllReady.nil
         refine AllReady.cons rfl (fun K hK => ?_) ?_
         ·go_simp
          go_wp2_with (go_at_call 60; refine (HC.out).mono ?_; rintro E w8 ⟨rfl, hk⟩; exact get3_panic HX.out ((HFD.out).gone hk) _ rfl rfl)
         exact AllReady.nil
        refine AllReady.cons rfl (fun K hK => ?_) ?_
        ·go_simp
         go_wp2_with (go_at_call 60; refine (HC.out).mono ?_; rintro E w8 ⟨rfl, hk⟩; exact get3_panic HX.out ((HFD.out).gone hk) _ rfl rfl)
        exact AllReady.nil
       refine AllReady.cons rfl (fun K hK => ?_) ?_
       ·go_simp
        go_wp2_with (go_at_call 60; refine (HC.out).mono ?_; rintro E w8 ⟨rfl, hk⟩; exact get3_panic HX.out ((HFD.out).gone hk) _ rfl rfl)
       exact AllReady.nil
      exact AllReady.nil
     | some p =>
      obtain ⟨tt, r⟩ := p
      rw [qt] at HNX
      have HC : Aside0 (Calls Tryz.prog 60 #[.pointer (some ⟨B + 1 + 1, 0, none⟩)] w5.drew fun E w' => ∃ A7 c7, E = .returned (.agg #[.int .i64 tt.f0, .int .i64 tt.f1, .slice A7 tt.f2.length c7]) ∧ Kd.R k50 50 w' w5.drew.heap.size (fun k => w5.drew.heap.size ≤ k) (.slice A7 tt.f2.length c7) tt.f2 ∧ RT (B + 1 + 1) r (.map (some B)) (.map (some (B + 1))) w' ∧ KR (B + 1 + 1) w5.drew w') := ⟨(HTM.out).mono fun E w' hE => by
       obtain ⟨hk, ⟨h0, _⟩ | ⟨t4, r4, v4, hv, rfl, hR, hr⟩⟩ := hE
       ·rw [qt] at h0; cases h0
       ·rw [qt] at hv
        cases hv
        obtain ⟨A7, c7, rfl⟩ := Kd.R_slice hR
        exact ⟨A7, c7, rfl, hR, hr, hk⟩⟩
      clear qt HTM
      have d1 := (HF2.out).g.cells.2.1
      have d2 := aP_ hd d1
      have HGT := mk0 (show B + 1 + 1 < w5.drew.heap.size ∧ w.heap.size ≤ w5.drew.heap.size from ⟨(HFD.out).lt, (HFD.out).hb.size⟩)
      have HJF := mk0 (show j < F.length by have := HFLN.out; have := HNB.out; have := HLT.out; omega)
      have hjz : (j : Int) < (F.length : Int) := by have := HJF.out; omega
      clear hd
      refine wp_region_noPanic ?_
      go_region_law (first
       | (go_simp; go_at_call 60; refine (HC.out).mono ?_; rintro E w8 ⟨A7, c7, rfl, hR, hr, hk⟩; have HF8 := mk0 ((HFD.out).call hk hr); have HR8 := mk0 (Kd.R_lower (base' := w.heap.size) (Kd.R_mono (ok' := fun k => B + 1 + 1 < k ∧ k ≠ g2) (Kd.R_new' hR (Kd.R_lt (HFD.out).r2)) (fun k hk => ⟨by have := (HGT.out).1; omega, fun e => hk.2 (by rw [e]; rfl)⟩)) (HGT.out).2); have hbc := body_cells (HF8.out).r2 HJF.out; (obtain ⟨⟨x0, y0, z0, hx0, hy0, hz0⟩, fx0, fy0, fz0⟩ := hbc); have HRB := mk0 (row_body (HF8.out).r2 HJF.out tt HR8.out (fun k hk => hk)); have d3 := (HF8.out).g.cells.2.1; clear hk hr hR)
       | fail)
      all_goals
       refine NoPanic.normal ?_
       rw [show ((w8.setCell ⟨g2, j * 5 + 2, none⟩ (.int .i64 tt.f0)).setCell ⟨g2, j * 5 + 2 + 1, none⟩ (.int .i64 tt.f1)).setCell ⟨g2, j * 5 + 2 + 2, none⟩ (.slice A7 tt.f2.length c7) = w8.setCells g2 (j * 5 + 2) [.int .i64 tt.f0, .int .i64 tt.f1, .slice A7 tt.f2.length c7] from rfl]
       have HFS := (HF8.out).stored (by rw [List.length_set]) (HRB.out).1 (HRB.out).2
       rw [HSX.out, HGX.out] at HFS
       have HFS := mk0 HFS
       clear hx0 hy0 hz0 fx0 fy0 fz0 d1 d2 d3 HRB HF8 HR8 HC HFD HF2
       generalize (w8.setCells g2 (j * 5 + 2) [.int .i64 tt.f0, .int .i64 tt.f1, .slice A7 tt.f2.length c7]) = w9 at *
       have hb0 := (HFS.out).rt.cells.1.1
       obtain ⟨sr, hsr⟩ : ∃ sr : ByteArray, sr = ⟨r.toArray⟩ := ⟨_, rfl⟩
       rw [← hsr] at hb0
       have HSR := mk0 (show sr.data.toList = r by rw [hsr])
       clear hsr
       cases q9 : sr.toList.isEmpty with
       | false =>
        have HNE := mk0 (show r ≠ [] from fun e => by rw [Lib.toList_data, HSR.out, e] at q9; cases q9)
        have HX := mk0 (getR3_bad HSZ.out (HVV.out.trans (by rw [HBO.out, HNX.out]; simp only [l21_]; rw [if_neg HNE.out]; rfl)))
        go_wp2
        exact get3_panic HX.out (HFS.out).g _ rfl rfl
       | true =>
        have HNE := mk0 (show r = [] from by rw [Lib.toList_data, HSR.out] at q9; exact List.isEmpty_iff.1 q9)
        have HBN := mk0 (show boAll (nmE (G.sy.map (·.f0))) (nmE (G.fs.map (·.f0))) G.fs G.bo = (boAll (nmE (G.sy.map (·.f0))) (nmE (G.fs.map (·.f0))) (G.fs.drop (j + 1)) (G.bo.drop (j + 1))).map ((dn ++ [⟨(G.fs.getD j z52).f0, (G.fs.getD j z52).f1, tt⟩]) ++ ·) from by
         rw [HBO.out, HNX.out]
         simp only [l21_]
         rw [if_pos HNE.out, Option.map_map]
         congr 1
         funext l
         simp)
        have HFT := HFS.out
        rw [HNE.out] at HFT
        have HFT := mk0 HFT
        go_wp2
        go_roundg (G.bo.length - (j + 1))
        case measure => have := HLT.out; omega
        case rel => exact ⟨j + 1, dn ++ [⟨(G.fs.getD j z52).f0, (G.fs.getD j z52).f1, tt⟩], HLT.out, Nat.le_refl _, by rw [HKZ.out], ⟨by rw [l7_, HDN.out]; rfl⟩, HBN, HFT⟩
    ·obtain rfl : j = G.bo.length := by omega
     have HVF := mk0 (show getV3 t = some (G.sy, dn, G.large) from by rw [HVV.out, HBO.out, boAll_end HNB.out]; simp)
     have HF2 := HF.out
     rw [l15_ (show G.fs.length ≤ G.bo.length from Nat.le_of_eq HNB.out.symm), List.append_nil] at HF2
     have HF2 := mk0 HF2
     clear HF HBO HVV HDN hlt hj hgg HBZ
     have HCK := mk0 (scheme_calls G.sy dn A1 A2 c1 c2 wr (Kd.R_reads' (HF2.out).r1).2.2 (Kd.R_reads' (HF2.out).r2).2.2)
     obtain ⟨p0, p1, p3⟩ := (HF2.out).g.cells
     obtain ⟨f0, f1, f3⟩ := (HF2.out).g.frozen
     cases qL : G.large with
     | true =>
      have HRR := mk0 (show getR3 t = (7, [], []) by unfold getR3; rw [if_neg (by have := HSZ.out; omega), HVF.out]; simp only; rw [if_pos (.inl qL)])
      have HFI := mk0 ((HF2.out).fin (.slice none 0 0) (.slice none 0 0) (.int .i64 7))
      go_wp2
      obtain ⟨_, k1, k2, k3⟩ := HFI.out
      exact get3_done (A1 := none) (A2 := none) (c1 := 0) (c2 := 0) (sy := []) (fs := []) HRR.out k1 k2 k3 ⟨rfl, by simp, fun h => absurd h (by simp)⟩ (Nat.le_refl _) ⟨rfl, by simp, fun h => absurd h (by simp)⟩ (Nat.le_refl _) _ rfl rfl
     | false =>
      by_cases hz : schV G.sy dn = 0
      ·rw [hz] at HCK
       have HRR := mk0 (show getR3 t = (0, G.sy, dn) by unfold getR3; rw [if_neg (by have := HSZ.out; omega), HVF.out]; simp only; rw [if_neg (by rw [qL, hz]; simp)])
       clear hz
       go_wp2_with fail
       refine (HCK.out).mono ?_
       rintro E w6 ⟨rfl, hb⟩
       have HF3 := mk0 ((HF2.out).below hb)
       clear hb p0 p1 p3 f0 f1 f3 HF2 HCK
       obtain ⟨p0, p1, p3⟩ := (HF3.out).g.cells
       obtain ⟨f0, f1, f3⟩ := (HF3.out).g.frozen
       have HFI := mk0 ((HF3.out).fin (.slice A1 G.sy.length c1) (.slice A2 dn.length c2) (.int .i64 0))
       go_wp2
       obtain ⟨⟨k4, k5, k6, k7⟩, k1, k2, k3⟩ := HFI.out
       exact get3_done HRR.out k1 k2 k3 k4 k5 k6 k7 _ rfl rfl
      ·have hsv : schV G.sy dn = 7 := by
        cases q : schB G.sy dn with
        | true => exact absurd (schV_good q) hz
        | false => exact schV_bad q
       rw [hsv] at HCK
       have HRR := mk0 (show getR3 t = (7, [], []) by unfold getR3; rw [if_neg (by have := HSZ.out; omega), HVF.out]; simp only; rw [if_pos (.inr hz)])
       clear hz hsv
       go_wp2_with fail
       refine (HCK.out).mono ?_
       rintro E w6 ⟨rfl, hb⟩
       have HF3 := mk0 ((HF2.out).below hb)
       clear hb p0 p1 p3 f0 f1 f3 HF2 HCK
       obtain ⟨p0, p1, p3⟩ := (HF3.out).g.cells
       obtain ⟨f0, f1, f3⟩ := (HF3.out).g.frozen
       have HFI := mk0 ((HF3.out).fin (.slice none 0 0) (.slice none 0 0) (.int .i64 7))
       go_wp2
       obtain ⟨_, k1, k2, k3⟩ := HFI.out
       exact get3_done (A1 := none) (A2 := none) (c1 := 0) (c2 := 0) (sy := []) (fs := []) HRR.out k1 k2 k3 ⟨rfl, by simp, fun h => absurd h (by simp)⟩ (Nat.le_refl _) ⟨rfl, by simp, fun h => absurd h (by simp)⟩ (Nat.le_refl _) _ rfl rfl
theorem flatMap_len {α : Type} {f : α → List UInt8} {c : Nat} (l : List α) (h : ∀ x ∈ l, (f x).length ≤ c) : (l.flatMap f).length ≤ l.length * c := by
 induction l with
 | nil => simp
 | cons a r ih =>
  rw [List.flatMap_cons, l7_, l8_, Nat.succ_mul]
  have := h a (List.mem_cons_self ..)
  have := ih (fun x hx => h x (List.mem_cons_of_mem _ hx))
  omega
theorem flatMap_drop {α : Type} {g : α → List UInt8} {l : List α} {i : Nat} (h : i < l.length) : (l.drop i).flatMap g = g l[i] ++ (l.drop (i + 1)).flatMap g := by
 rw [dropS h, List.flatMap_cons]
structure ScOk (sy : List S71) (fs : List S52) : Prop where
 ny : sy.length ≤ 24
 nf : fs.length ≤ 64
 sym : ∀ x ∈ sy, x.f0.size ≤ 24 ∧ 0 ≤ x.f1 ∧ x.f1 ≤ 4
 fnm : ∀ f ∈ fs, f.f0.size ≤ 24
 srt : ∀ f ∈ fs, srtB f.f1 = true ∧ f.f1.f0.length ≤ 60
 bod : ∀ f ∈ fs, tN f.f2 ≤ 400 ∧ tIn sy.length fs.length f.f1.f0.length f.f2
theorem scOk {sy : List S71} {fs : List S52} (h : schB sy fs = true) : ScOk sy fs := by
 obtain ⟨⟨h1, h2, h3⟩, h4, h5, h6, h7⟩ := schB_parts h
 refine ⟨(symsB_len h1).1, h3, fun x hx => ?_, fun f hf => ?_, fun f hf => ?_, fun f hf => ?_⟩
 ·have h8 := (symsB_len h1).2 x hx
  unfold symOk at h8
  simp only [l19_, l20_] at h8
  exact ⟨nameB_size h8.1.1, h8.1.2, h8.2⟩
 ·have h8 := h5 f hf
  unfold headOk at h8
  rw [l19_] at h8
  exact nameB_size h8.1
 ·have h8 := headOk_srt (h5 f hf)
  refine ⟨h8, ?_⟩
  have h9 := srtB_N h8
  obtain ⟨n, ⟨l⟩, b⟩ := f
  simp only at h9 ⊢
  rw [sN] at h9
  have := sLen_le (l := l)
  omega
 ·have h8 := h7 f hf
  unfold bodyOk endO at h8
  simp only [l19_, l20_] at h8
  refine ⟨h8.1.1, ?_⟩
  cases e : ofV sy (fs.map (·.f1)) f.f1.f0 f.f2 with
  | none => rw [e] at h8; exact absurd h8.2.1 (by simp)
  | some x => have := ofV_in e; rwa [List.length_map] at this
theorem symL_len {sy : List S71} {fs : List S52} (h : ScOk sy fs) {x : S71} (hx : x ∈ sy) : (symL x).length ≤ 40 := by
 have := h.sym x hx
 have h2 := dg_len (n := x.f1.toNat) (by omega)
 rw [Lib.size_eq] at this
 unfold symL
 simp only [l7_, l8_, List.length_nil]
 omega
theorem funL_len {sy : List S71} {fs : List S52} (h : ScOk sy fs) {f : S52} (hf : f ∈ fs) : (funL sy fs f).length ≤ 12500 := by
 have h1 := h.fnm f hf
 rw [Lib.size_eq] at h1
 have h2 := srtS_len f.f1
 have h3 := srtB_N (h.srt f hf).1
 have h4 := trmS_len (sy := sy) (fs := fs) (fun x hx => (h.sym x hx).1) h.fnm (np := f.f1.f0.length) (by have := (h.srt f hf).2; omega) _ f.f2 (Nat.le_refl _) (h.bod f hf).2
 have h5 := (h.bod f hf).1
 unfold funL
 simp only [l7_, l8_, List.length_nil]
 omega
theorem putL_len {sy : List S71} {fs : List S52} (h : ScOk sy fs) : (putL sy fs).length ≤ 1000000 := by
 have h1 := flatMap_len (f := symL) (c := 40) sy (fun x hx => symL_len h hx)
 have h2 := flatMap_len (f := funL sy fs) (c := 12500) fs (fun f hf => funL_len h hf)
 have := h.ny; have := h.nf
 unfold putL
 rw [l7_]
 omega
structure PX (w : World) (b : Nat) (s1 s2 : Value) (acc : List UInt8) (W : World) : Prop where
 hb : Below w.heap.size w W
 box : W.heap[w.heap.size]? = some (.cells #[s1, s2] 25 (0, 0))
 hlt : w.heap.size < b
 bb : BB b b acc W
 hbw : b < W.heap.size
theorem PX.write {w W W1 : World} {b : Nat} {s1 s2 : Value} {acc acc1 : List UInt8} (h : PX w b s1 s2 acc W) (hw : WrE b acc1 W W1) : PX w b s1 s2 acc1 W1 :=
 ⟨Below.trans h.hb (Below.mono hw.2.1 (Nat.le_of_lt h.hlt)), (hw.2.1.block _ h.hlt).trans h.box, h.hlt, hw.1, l12_ h.hbw hw.2.2.size⟩
theorem PX.below {w W W1 : World} {b : Nat} {s1 s2 : Value} {acc : List UInt8} (h : PX w b s1 s2 acc W) (hb : Below W.heap.size W W1) : PX w b s1 s2 acc W1 :=
 ⟨aM_ h.hb h.hb.size hb, aK_ h.box hb, h.hlt, bb_below h.bb hb, l12_ h.hbw hb.size⟩
theorem px_start (w W : World) (s1 s2 : Value) (hb : Below w.heap.size w W) (box : W.heap[w.heap.size]? = some (.cells #[s1, s2] 25 (0, 0))) :
  PX w W.heap.size s1 s2 [] (W.alloc (.cells #[.pointer none, .slice none 0 0] 69)) :=
 ⟨hb.alloc hb.size _, aD_ box _, blk_lt box, bb_new W, by simp⟩
theorem PX.cells {w : World} {b : Nat} {s1 s2 : Value} {acc : List UInt8} {W : World} (h : PX w b s1 s2 acc W) : W.cell? ⟨w.heap.size, 0, none⟩ = some s1 ∧ W.cell? ⟨w.heap.size, 1, none⟩ = some s2 := ⟨(aC_ h.box 0).trans rfl, (aC_ h.box 1).trans rfl⟩
def PutE (v : List UInt8 × Int) (w : World) (e : Ending) (w' : World) : Prop := e = .returned (.tuple #[.string ⟨v.1.toArray⟩, .int .i64 v.2]) ∧ Below w.heap.size w w'
set_option maxHeartbeats 16000000 in
set_option maxRecDepth 100000 in
theorem put_calls (sy : List S71) (fs : List S52) (A1 A2 : Option Addr) (c1 c2 : Nat) (w : World) (hS : Kd.C k71 w A1 sy.length sy) (hF : Kd.C k52 w A2 fs.length fs) :
  Calls Tryz.prog 17 #[.agg #[.slice A1 sy.length c1, .slice A2 fs.length c2]] w (PutE (putV sy fs) w) := by
 have HS := mk0 hS
 have HF := mk0 hF
 have HP := mk0 (CB.mk (aA_ (Below.refl w.heap.size w) (.cells #[.slice A1 sy.length c1, .slice A2 fs.length c2] 25)) (aU_ w (.cells #[.slice A1 sy.length c1, .slice A2 fs.length c2] 25)))
 have HCK := mk0 (fun (W : World) (hW : Below w.heap.size w W) => scheme_calls sy fs A1 A2 c1 c2 W (Kd.C_below hS hW) (Kd.C_below hF hW))
 clear hS hF
 go_enter Tryz.func17, Tryz.ntmps17
 go_upto_region 1 with (fail)
 generalize w.alloc (.cells #[.slice A1 sy.length c1, .slice A2 fs.length c2] 25) = W1 at *
 obtain ⟨p0, p1⟩ := (HP.out).cells
 go_wp2_with fail
 refine (HCK.out W1 (HP.out).hb).mono ?_
 rintro E w2 ⟨rfl, hb⟩
 have HP2 := mk0 ((HP.out).below hb)
 clear hb p0 p1 HP HCK
 cases q : schB sy fs with
 | false =>
  have HV := mk0 (show putV sy fs = ([], 7) by unfold putV; rw [q]; rfl)
  rw [schV_bad q]
  clear q
  go_wp2
  go_ret2
  exact ⟨by rw [HV.out]; rfl, (HP2.out).hb⟩
 | true =>
 have HPV := mk0 (show putV sy fs = if 65536 < (putL sy fs).length then ([], 3) else (putL sy fs, 0) by unfold putV; rw [q]; rfl)
 have HOK := mk0 (scOk q)
 have HLN := mk0 (putL_len (scOk q))
 rw [schV_good q]
 clear q
 have HX := mk0 (px_start w w2 _ _ (HP2.out).hb (HP2.out).h0)
 go_upto_region 5 with (fail)
 generalize w2.alloc (.cells #[.pointer none, .slice none 0 0] 69) = w3 at *
 generalize w2.heap.size = b at *
 obtain ⟨p0, p1⟩ := (HX.out).cells
 go_wp2
 clear p0 p1 HP2
 go_loopg [20] sy.length (fun gg v20 wi => ∃ (j : Nat) (acc : List UInt8), j ≤ sy.length ∧ sy.length - j ≤ gg ∧ v20 = .int .i64 j ∧ Aside0 (PX w b (.slice A1 sy.length c1) (.slice A2 fs.length c2) acc wi) ∧ Aside0 (acc ++ ((sy.drop j).flatMap symL ++ fs.flatMap (funL sy fs)) = putL sy fs))
 case atStart => exact ⟨0, [], by omega, by omega, rfl, HX, ⟨rfl⟩⟩
 case round =>
  clear HX
  obtain ⟨j, acc, hj, hgg, rfl, HX, HA⟩ := hrel
  by_cases hlt : j < sy.length
  ·have hltz : (j : Int) < (sy.length : Int) := by omega
   obtain ⟨ad, e, hx0, hx1⟩ := at_T71 HS.out (j : Int) (by omega) hltz
   subst e
   rw [rdY_at hlt] at hx0 hx1
   rw [l14_] at hx0 hx1
   replace hx0 := ((HX.out).hb.cell (l1_ w _ hx0)).trans hx0
   replace hx1 := ((HX.out).hb.cell (l1_ w _ hx1)).trans hx1
   have HFD := mk0 (flatMap_drop (g := symL) hlt)
   have HSM := mk0 ((HOK.out).sym _ (l11_ hlt))
   generalize sy[j] = u at *
   go_upto_region 8 with (fail)
   have HX5 := mk0 (aU_ wr (.cells #[.string u.f0, .int .i64 u.f1] 71))
   have HP5 := mk0 ((HX.out).below (aA_ (Below.refl wr.heap.size wr) (.cells #[.string u.f0, .int .i64 u.f1] 71)))
   clear hx0 hx1 HX
   generalize (wr.alloc (.cells #[.string u.f0, .int .i64 u.f1] 71)) = w5 at *
   generalize wr.heap.size = b7 at *
   have m0 : w5.cell? ⟨b7, 0, none⟩ = some (.string u.f0) := (aC_ HX5.out 0).trans rfl
   have m1 : w5.cell? ⟨b7, 1, none⟩ = some (.int .i64 u.f1) := (aC_ HX5.out 1).trans rfl
   have HI := mk0 (fun W => itoa_calls u.f1 (HSM.out).2.1 (by have := (HSM.out).2.2; omega) W)
   have hsz : u.f0.size ≤ 24 := (HSM.out).1
   have hd : (dg u.f1.toNat).length ≤ 2 := dg_len (by have := (HSM.out).2.1; have := (HSM.out).2.2; omega)
   refine wp_region_still_tail 9 (by kernel_rfl) (by kernel_rfl) ?_
   simp only [List.take_succ_cons, List.take_zero, List.drop_succ_cons, List.drop_zero]
   repeat (refine wpStill_step (fun K hK => ?_); go_simp; (first | refine hK _ ?_ | (rw [if_neg (by omega)]; go_simp; refine hK _ ?_)); clear hK K)
   still_call (HI.out _)
   repeat (refine wpStill_step (fun K hK => ?_); go_simp; (first | refine hK _ ?_ | (rw [if_neg (by omega)]; go_simp; refine hK _ ?_)); clear hK K)
   refine wpStill_nil ?_
   change wpList _ _ _ _ _ w5.drew
   have HP6 := mk0 ((HP5.out).below (below_drew (Below.refl _ _)))
   clear m0 m1 HP5 HI
   generalize w5.drew = w6 at *
   have HA6 := mk0 (show (acc ++ symL u) ++ ((sy.drop (j + 1)).flatMap symL ++ fs.flatMap (funL sy fs)) = putL sy fs by rw [← HA.out, HFD.out]; simp)
   have HLA := mk0 (show acc.length + (symL u).length ≤ 1000000 by
    have h1 := HLN.out
    rw [← HA6.out, l7_, l7_] at h1
    omega)
   have HWS := mk0 (fun (s : ByteArray) (hs : s.data.toList = symL u) => ws_calls b acc s _ _ (HP6.out).bb hs (by have := HLA.out; omega) (Nat.le_of_lt (HP6.out).hbw))
   go_wp2_with fail
   refine ((HWS.out) _ ?_).mono ?_
   ·first | rfl | (unfold symL; simp; done) | (unfold symL; simp; rfl)
   rintro E w7 ⟨rfl, hw⟩
   have HP7 := mk0 ((HP6.out).write hw)
   clear hw HWS HLA hd hsz
   go_wp2
   go_roundg (sy.length - (j + 1))
   case measure => omega
   case rel => exact ⟨j + 1, acc ++ symL u, by omega, by omega, by first | rfl | (rw [wrap_succ (by omega) (by have := (HOK.out).ny; omega)]; rfl), HP7, HA6⟩
  ·have hltz : ¬ (j : Int) < (sy.length : Int) := by omega
   have hje : j = sy.length := by omega
   subst hje
   have HA2 := mk0 (show acc ++ fs.flatMap (funL sy fs) = putL sy fs by rw [← HA.out, List.drop_length]; rfl)
   obtain ⟨p0, p1⟩ := (HX.out).cells
   go_wp2
   clear p0 p1 HA
   go_loopg [38] fs.length (fun gg v38 wi => ∃ (j : Nat) (acc : List UInt8), j ≤ fs.length ∧ fs.length - j ≤ gg ∧ v38 = .int .i64 j ∧ Aside0 (PX w b (.slice A1 sy.length c1) (.slice A2 fs.length c2) acc wi) ∧ Aside0 (acc ++ (fs.drop j).flatMap (funL sy fs) = putL sy fs))
   case atStart => exact ⟨0, acc, by omega, by omega, rfl, HX, HA2⟩
   case round =>
    clear HX HA2
    obtain ⟨j, acc, hj, hgg, rfl, HX, HA⟩ := hrel
    by_cases hlt : j < fs.length
    ·have hltz : (j : Int) < (fs.length : Int) := by omega
     obtain ⟨ad, As, cs, At, ct, e, hx0, hx1, hx2, hx3, hx4, hls, hCs, hlt4, hCt⟩ := at_T52 HF.out (j : Int) (by omega) hltz
     subst e
     rw [rdF_at hlt] at hx0 hx1 hx2 hx3 hx4 hls hCs hlt4 hCt
     rw [l14_] at hx0 hx1 hx2 hx3 hx4
     replace hx0 := ((HX.out).hb.cell (l1_ w _ hx0)).trans hx0
     replace hx1 := ((HX.out).hb.cell (l1_ w _ hx1)).trans hx1
     replace hx2 := ((HX.out).hb.cell (l1_ w _ hx2)).trans hx2
     replace hx3 := ((HX.out).hb.cell (l1_ w _ hx3)).trans hx3
     replace hx4 := ((HX.out).hb.cell (l1_ w _ hx4)).trans hx4
     have HFD := mk0 (flatMap_drop (g := funL sy fs) hlt)
     have HFN := mk0 ((HOK.out).fnm _ (l11_ hlt))
     have HFS := mk0 ((HOK.out).srt _ (l11_ hlt))
     have HFB := mk0 ((HOK.out).bod _ (l11_ hlt))
     have HCs := mk0 hCs
     have HLs := mk0 hls
     have HCt := mk0 hCt
     have HLt := mk0 hlt4
     clear hCs hls hlt4 hCt
     generalize fs[j] = f at *
     go_upto_region 13 with (fail)
     have HX5 := mk0 (aU_ wr (.cells #[.string f.f0, .slice As f.f1.f0.length cs, .int .i64 f.f2.f0, .int .i64 f.f2.f1, .slice At f.f2.f2.length ct] 52))
     have HP5 := mk0 ((HX.out).below (aA_ (Below.refl _ _) (.cells #[.string f.f0, .slice As f.f1.f0.length cs, .int .i64 f.f2.f0, .int .i64 f.f2.f1, .slice At f.f2.f2.length ct] 52)))
     have HNB := mk0 (show wr.heap.size ≠ b from by have := (HX.out).hbw; omega)
     clear hx0 hx1 hx2 hx3 hx4 HX
     generalize (wr.alloc (.cells #[.string f.f0, .slice As f.f1.f0.length cs, .int .i64 f.f2.f0, .int .i64 f.f2.f1, .slice At f.f2.f2.length ct] 52)) = w5 at *
     generalize wr.heap.size = b7 at *
     have HKX := mk0 (fun (W3 : World) (h : W3.heap[b7]? = some (.cells #[.string f.f0, .slice As f.f1.f0.length cs, .int .i64 f.f2.f0, .int .i64 f.f2.f1, .slice At f.f2.f2.length ct] 52 (0, 0))) => (show W3.cell? ⟨b7, 0, none⟩ = some (.string f.f0) ∧ W3.cell? ⟨b7, 1, none⟩ = some (.slice As f.f1.f0.length cs) ∧ W3.cell? ⟨b7, 2, none⟩ = some (.int .i64 f.f2.f0) ∧ W3.cell? ⟨b7, 3, none⟩ = some (.int .i64 f.f2.f1) ∧ W3.cell? ⟨b7, 4, none⟩ = some (.slice At f.f2.f2.length ct) from
      ⟨(aC_ h 0).trans rfl, (aC_ h 1).trans rfl, (aC_ h 2).trans rfl, (aC_ h 3).trans rfl, (aC_ h 4).trans rfl⟩))
     obtain ⟨m0, m1, m2, m3, m4⟩ := HKX.out _ HX5.out
     have HSP := mk0 (sput_calls f.f1 As cs w5 (Kd.C_below HCs.out (HP5.out).hb) HLs.out)
     rw [show sputV f.f1 = (srtS f.f1, 0) by unfold sputV; rw [(HFS.out).1]; rfl] at HSP
     have hsl : (srtS f.f1).length ≤ 360 := by have := srtS_len f.f1; have := srtB_N (HFS.out).1; omega
     have hsz : f.f0.size ≤ 24 := HFN.out
     go_wp2_with fail
     refine (HSP.out).mono ?_
     rintro E w6 ⟨rfl, hb⟩
     have HP6 := mk0 ((HP5.out).below hb)
     have HX6 := mk0 (aK_ HX5.out hb)
     clear hb m0 m1 m2 m3 m4 HP5 HX5 HSP
     obtain ⟨m0, m1, m2, m3, m4⟩ := HKX.out _ HX6.out
     have HA6 := mk0 (show (acc ++ funL sy fs f) ++ (fs.drop (j + 1)).flatMap (funL sy fs) = putL sy fs by rw [← HA.out, HFD.out]; simp)
     have HLA := mk0 (show acc.length + (funL sy fs f).length ≤ 1000000 by
      have h1 := HLN.out
      rw [← HA6.out, l7_, l7_] at h1
      omega)
     have HFL := mk0 (show (funL sy fs f).length = 11 + f.f0.data.toList.length + (srtS f.f1).length + (trmS (hdS sy fs) f.f2).length from by unfold funL; simp only [l7_, l8_, List.length_nil]; omega)
     have HWS := mk0 (fun (s : ByteArray) (hs : s.data.toList = [102, 117, 110, 32] ++ (f.f0.data.toList ++ ([32, 58, 32] ++ (srtS f.f1 ++ [32, 61, 32])))) => ws_calls b acc s _ w6 (HP6.out).bb hs (by have := HLA.out; have := HFL.out; simp only [l7_, l8_, List.length_nil]; omega) (Nat.le_of_lt (HP6.out).hbw))
     go_wp2_with fail
     refine ((HWS.out) _ ?_).mono ?_
     ·first | rfl | (simp; done) | (simp; rfl)
     rintro E w7 ⟨rfl, hw⟩
     have HP7 := mk0 ((HP6.out).write hw)
     have HX7 := mk0 (hw.2.2.keep _ _ _ HNB.out (by decide) HX6.out)
     clear hw m0 m1 m2 m3 m4 HP6 HX6 HWS hsl hsz
     obtain ⟨m0, m1, m2, m3, m4⟩ := HKX.out _ HX7.out
     obtain ⟨p0, p1⟩ := (HP7.out).cells
     have HTW := mk0 (twrite_calls sy fs A1 (some ad) c1 c2 f.f1.f0.length w HS.out HF.out (fun x hx => ((HOK.out).sym x hx).1) (HOK.out).fnm (by have := (HFS.out).2; omega) b (Nat.le_of_lt (HP7.out).hlt) 400 f.f2 (HFB.out).1 (by omega) (HFB.out).2 At ct (acc ++ ([102, 117, 110, 32] ++ (f.f0.data.toList ++ ([32, 58, 32] ++ (srtS f.f1 ++ [32, 61, 32]))))) w7 HCt.out HLt.out (HP7.out).hb (HP7.out).bb (HP7.out).hbw (by
      have := HLA.out; have := HFL.out; have := (HFB.out).1
      rw [l7_]
      simp only [l7_, l8_, List.length_nil]
      omega))
     go_wp2_with fail
     refine (HTW.out).mono ?_
     rintro E w8 ⟨rfl, hw⟩
     have HP8 := mk0 ((HP7.out).write hw)
     clear hw m0 m1 m2 m3 m4 p0 p1 HP7 HX7 HTW
     have HW10 := mk0 (wb10 b _ w8 (HP8.out).bb (by
      have := HLA.out; have := HFL.out
      simp only [l7_, l8_, List.length_nil]
      omega) (Nat.le_of_lt (HP8.out).hbw))
     go_wp2_with fail
     refine (HW10.out).mono ?_
     rintro E w9 ⟨rfl, hw⟩
     have HP9 := mk0 ((HP8.out).write hw)
     have HFE := mk0 (show acc ++ ([102, 117, 110, 32] ++ (f.f0.data.toList ++ ([32, 58, 32] ++ (srtS f.f1 ++ [32, 61, 32])))) ++ trmS (hdS sy fs) f.f2 ++ [10] = acc ++ funL sy fs f by unfold funL; simp)
     rw [HFE.out] at HP9
     clear hw HP8 HW10 HLA
     go_wp2
     go_roundg (fs.length - (j + 1))
     case measure => omega
     case rel => exact ⟨j + 1, acc ++ funL sy fs f, by omega, by omega, by first | rfl | (rw [wrap_succ (by omega) (by have := (HOK.out).nf; omega)]; rfl), HP9, HA6⟩
    ·have hltz : ¬ (j : Int) < (fs.length : Int) := by omega
     have hje : j = fs.length := by omega
     subst hje
     have HACC := mk0 (show acc = putL sy fs by rw [← HA.out, List.drop_length]; simp)
     have HLEN := mk0 (show Calls Tryz.prog 49 #[.pointer (some ⟨b, 0, none⟩)] wr fun e w' => e = .returned (.int .i64 (acc.length : Int)) ∧ w' = wr from by
      have h := Tryz.Builder_Len b b (Lib.byteCells acc) wr (HX.out).bb
      rw [byteCells_len] at h
      exact h)
     have HSTR := mk0 (Tryz.Builder_String_any b b acc wr (HX.out).bb (Nat.le_of_lt (HX.out).hbw))
     rw [← HACC.out] at HPV
     clear HA hj hgg hlt
     go_wp2_with fail
     refine (HLEN.out).mono ?_
     rintro E W0 ⟨rfl, rfl⟩
     cases q1 : decide ((acc.length : Int) > 65536) with
     | true =>
      have HP := mk0 (show putV sy fs = ([], 3) by rw [HPV.out, if_pos (by have := l0_ q1; omega)])
      go_wp2
      go_ret2
      exact ⟨by rw [HP.out]; rfl, (HX.out).hb⟩
     | false =>
      have HP := mk0 (show putV sy fs = (acc, 0) by rw [HPV.out, if_neg (by have := of_decide_eq_false q1; omega)])
      go_wp2_with fail
      refine (HSTR.out).mono ?_
      rintro E W9 ⟨rfl, hb⟩
      have HB9 := mk0 (Below.trans (HX.out).hb (Below.mono hb (Nat.le_of_lt (HX.out).hlt)))
      clear hb
      go_wp2
      go_ret2
      exact ⟨by rw [HP.out]; rfl, HB9.out⟩
def exL : List UInt8 := [115, 121, 109, 98, 111, 108, 32, 97, 32, 50, 10, 115, 121, 109, 98, 111, 108, 32, 98, 32, 49, 10, 115, 121, 109, 98, 111, 108, 32, 99, 32, 48, 10, 102, 117, 110, 32, 115, 32, 58, 32, 111, 32, 61, 32, 102, 32, 35, 99, 10, 102, 117, 110, 32, 102, 32, 58, 32, 111, 32, 62, 32, 111, 32, 61, 32, 35, 97, 32, 36, 48, 32, 40, 102, 32, 40, 35, 98, 32, 36, 48, 41, 41, 10]
def sy0 : List S71 := [⟨⟨#[97]⟩, 2⟩, ⟨⟨#[98]⟩, 1⟩, ⟨⟨#[99]⟩, 0⟩]
def fs0 : List S52 := [⟨⟨#[115]⟩, ⟨[]⟩, ⟨1, 1, [⟨2, 2, []⟩]⟩⟩, ⟨⟨#[102]⟩, ⟨[⟨[]⟩]⟩, ⟨2, 0, [⟨0, 0, []⟩, ⟨1, 1, [⟨2, 1, [⟨0, 0, []⟩]⟩]⟩]⟩⟩]
theorem ex_get : getR3 ⟨exL.toArray⟩ = (0, sy0, fs0) := by kernel_rfl
theorem ex_put : putV sy0 fs0 = (exL, 0) := by kernel_rfl
theorem ex_ord : ordV sy0 fs0 = (1, 0) := by kernel_rfl
theorem ex_sch : schV sy0 fs0 = 0 := by kernel_rfl
theorem get0_calls (w : World) (hm : MX w) : Calls Tryz.prog 19 #[.string ⟨exL.toArray⟩] w fun E w' => ∃ A1 c1 A2 c2, E = .returned (.tuple #[.agg #[.slice A1 sy0.length c1, .slice A2 fs0.length c2], .int .i64 0]) ∧ Kd.C k71 w' A1 sy0.length sy0 ∧ Kd.C k52 w' A2 fs0.length fs0 ∧ Below w.heap.size w w' := by
 refine (get3_calls ⟨exL.toArray⟩ w hm).mono ?_
 intro E w' h
 unfold GetE3 at h
 rw [ex_get] at h
 obtain ⟨A1, c1, A2, c2, rfl, h1, h2, h3, h4, h5⟩ := h
 exact ⟨A1, c1, A2, c2, rfl, h1, h3, h5⟩
theorem put0_calls (A1 : Option Addr) (c1 : Nat) (A2 : Option Addr) (c2 : Nat) (w : World) (hS : Kd.C k71 w A1 sy0.length sy0) (hF : Kd.C k52 w A2 fs0.length fs0) :
  Calls Tryz.prog 17 #[.agg #[.slice A1 sy0.length c1, .slice A2 fs0.length c2]] w fun E w' => E = .returned (.tuple #[.string ⟨exL.toArray⟩, .int .i64 0]) ∧ Below w.heap.size w w' := by
 refine (put_calls sy0 fs0 A1 A2 c1 c2 w hS hF).mono ?_
 intro E w' h
 unfold PutE at h
 rw [ex_put] at h
 exact h
theorem ord0_calls (A1 : Option Addr) (c1 : Nat) (A2 : Option Addr) (c2 : Nat) (w : World) (hS : Kd.C k71 w A1 sy0.length sy0) (hF : Kd.C k52 w A2 fs0.length fs0) :
  Calls Tryz.prog 24 #[.agg #[.slice A1 sy0.length c1, .slice A2 fs0.length c2]] w fun E w' => E = .returned (.tuple #[.int .i64 1, .int .i64 0]) ∧ Below w.heap.size w w' := by
 have h := sorderS_calls sy0 fs0 A1 A2 c1 c2 w hS hF
 rw [ex_ord] at h
 exact h
theorem sch0_calls (A1 : Option Addr) (c1 : Nat) (A2 : Option Addr) (c2 : Nat) (w : World) (hS : Kd.C k71 w A1 sy0.length sy0) (hF : Kd.C k52 w A2 fs0.length fs0) :
  Calls Tryz.prog 14 #[.agg #[.slice A1 sy0.length c1, .slice A2 fs0.length c2]] w fun E w' => E = .returned (.int .i64 0) ∧ Below w.heap.size w w' := by
 have h := scheme_calls sy0 fs0 A1 A2 c1 c2 w hS hF
 rw [ex_sch] at h
 exact h
theorem sy0_len : sy0.length = 3 := rfl
theorem fs0_len : fs0.length = 2 := rfl
theorem exL_list : (⟨exL.toArray⟩ : ByteArray).toList = exL := by rw [Lib.toList_data]
set_option maxHeartbeats 16000000 in
set_option maxRecDepth 100000 in
theorem alive_calls (w : World) (hm : MX w) : Calls Tryz.prog 16 #[] w fun E w' => E = .returned (.bool true) ∧ Below w.heap.size w w' := by
 have HG := mk0 (get0_calls w hm)
 have HEL := mk0 exL_list
 unfold exL at HG HEL
 rw [sy0_len, fs0_len] at HG
 clear hm
 go_enter Tryz.func16, Tryz.ntmps16
 go_wp2_with fail
 refine (HG.out).mono ?_
 rintro E w1 ⟨A1, c1, A2, c2, rfl, h1, h2, hb⟩
 have hba := aA_ (Below.refl w1.heap.size w1) (.cells #[.slice A1 3 c1, .slice A2 2 c2] 25)
 have HB2 := mk0 (aM_ hb hb.size hba)
 have HX2 := mk0 (aU_ w1 (.cells #[.slice A1 3 c1, .slice A2 2 c2] 25))
 have HS2 := mk0 (Kd.C_below h1 hba)
 have HF2 := mk0 (Kd.C_below h2 hba)
 clear h1 h2 hb hba HG
 go_upto_region 2 with (fail)
 generalize w1.alloc (.cells #[.slice A1 3 c1, .slice A2 2 c2] 25) = w2 at *
 generalize w1.heap.size = b1 at *
 have HK := mk0 (fun (W : World) (hW : Below w2.heap.size w2 W) => (show W.cell? ⟨b1, 0, none⟩ = some (.slice A1 3 c1) ∧ W.cell? ⟨b1, 1, none⟩ = some (.slice A2 2 c2) from ⟨(aC_ (aK_ HX2.out hW) 0).trans rfl, (aC_ (aK_ HX2.out hW) 1).trans rfl⟩))
 have HP := mk0 (put0_calls A1 c1 A2 c2 w2 HS2.out HF2.out)
 have HO := mk0 (fun (W : World) (hW : Below w2.heap.size w2 W) => ord0_calls A1 c1 A2 c2 W (Kd.C_below HS2.out hW) (Kd.C_below HF2.out hW))
 have HC := mk0 (fun (W : World) (hW : Below w2.heap.size w2 W) => sch0_calls A1 c1 A2 c2 W (Kd.C_below HS2.out hW) (Kd.C_below HF2.out hW))
 unfold exL at HP
 rw [sy0_len, fs0_len] at HP HO HC
 clear HS2 HF2 HX2
 obtain ⟨k0, k1⟩ := HK.out _ (Below.refl _ _)
 go_wp2_with fail
 refine (HP.out).mono ?_
 rintro E w3 ⟨rfl, hb⟩
 have HB3 := mk0 hb
 clear hb k0 k1 HP
 obtain ⟨k0, k1⟩ := HK.out _ HB3.out
 go_wp2_with fail
 refine (HO.out _ HB3.out).mono ?_
 rintro E w4 ⟨rfl, hb⟩
 have HB4 := mk0 (aM_ HB3.out (HB3.out).size hb)
 clear hb k0 k1 HB3 HO
 obtain ⟨k0, k1⟩ := HK.out _ HB4.out
 go_wp2_with fail
 refine (HC.out _ HB4.out).mono ?_
 rintro E w5 ⟨rfl, hb⟩
 have HB5 := mk0 (aM_ HB4.out (HB4.out).size hb)
 clear hb k0 k1
 go_wp2
 go_ret
 exact ⟨rfl, aM_ HB2.out (HB2.out).size HB5.out⟩
instance lawfulBA : LawfulBEq ByteArray where
 eq_of_beq {a b} h := by
  rcases a with ⟨a⟩
  rcases b with ⟨b⟩
  have h2 : (a == b) = true := h
  rw [eq_of_beq h2]
 rfl {a} := by
  rcases a with ⟨a⟩
  exact beq_self_eq_true a
theorem indexAny_hit {x : List UInt8} (hx : ∀ c ∈ x, c ≠ 32 ∧ c ≠ 40 ∧ c ≠ 41) (u : List UInt8) (c : UInt8) (hc : c = 32 ∨ c = 40 ∨ c = 41) : Lib.indexAny (x ++ c :: u) [32, 40, 41] = x.length := by
 induction x with
 | nil => rw [List.nil_append]; unfold Lib.indexAny; rcases hc with rfl | rfl | rfl <;> simp
 | cons a r ih =>
  obtain ⟨h1, h2, h3⟩ := hx a (List.mem_cons_self ..)
  have ih := ih (fun c hc => hx c (List.mem_cons_of_mem _ hc))
  rw [List.cons_append]
  unfold Lib.indexAny
  rw [ih]
  have e : ([32, 40, 41] : List UInt8).contains a = false := by simp [h1, h2, h3]
  have e2 : (((r.length : Nat) : Int) == -1) = false := by rw [beq_eq_false_iff_ne]; omega
  simp [e, e2, h1, h2, h3]
theorem indexAny_none {x : List UInt8} (hx : ∀ c ∈ x, c ≠ 32 ∧ c ≠ 40 ∧ c ≠ 41) : Lib.indexAny x [32, 40, 41] = -1 := by
 induction x with
 | nil => rfl
 | cons a r ih =>
  obtain ⟨h1, h2, h3⟩ := hx a (List.mem_cons_self ..)
  have ih := ih (fun c hc => hx c (List.mem_cons_of_mem _ hc))
  unfold Lib.indexAny
  rw [ih]
  simp [h1, h2, h3]
theorem schB_small {sy : List S71} {fs : List S52} (h : schB sy fs = true) : (∀ f ∈ fs, sN f.f1 ≤ 1000000 ∧ tN f.f2 ≤ 1000000) ∧ sy.length ≤ 1000000 ∧ fs.length ≤ 1000000 := by
 have hok := scOk h
 refine ⟨fun f hf => ⟨?_, ?_⟩, ?_, ?_⟩
 ·have := srtB_N (hok.srt f hf).1; omega
 ·have := (hok.bod f hf).1; omega
 ·have := hok.ny; omega
 ·have := hok.nf; omega
theorem yloop_ev (a b : List S71) (hm : a.length ≤ 9223372036854775807) (hl : a.length = b.length) (d : Nat) : ∀ j : Nat, a.length - j = d → j ≤ a.length → Ev (fun k => Q.api_Symbol.l0 k a b (a.length : Int) (j : Int)) (eqL symE (a.drop j) (b.drop j)) := by
 induction d with
 | zero =>
  intro j hd hj
  rw [l15_ (by omega), l15_ (by omega)]
  refine ev_end fun k => ?_
  simp only [Q.api_Symbol.l0]
  rw [if_neg (by omega)]
  rfl
 | succ d ih =>
  intro j hd hj
  have h1 : j < a.length := by omega
  have h2 : j < b.length := by omega
  rw [dropS h1, dropS h2, eqL]
  have hs := symE_not a[j] b[j]
  cases e : symE a[j] b[j] with
  | false =>
   rw [e] at hs
   rw [Bool.false_and]
   refine ev_end fun k => ?_
   simp only [Q.api_Symbol.l0]
   rw [rdY_at h1, rdY_at h2, if_pos (by omega), if_pos (by omega), if_pos (by omega), if_pos (by omega), if_pos]
   cases h : ((!a[j].f0.toList == b[j].f0.toList) || (!a[j].f1 == b[j].f1)) with
   | true => rfl
   | false => rw [h] at hs; cases hs
  | true =>
   rw [e] at hs
   rw [Bool.true_and]
   refine ev_next (ih (j + 1) (by omega) (by omega)) fun k => ?_
   simp only [Q.api_Symbol.l0]
   rw [rdY_at h1, rdY_at h2, if_pos (by omega), if_pos (by omega), if_pos (by omega), if_pos (by omega), if_neg, wrap_succ (by omega) (by omega)]
   ·rfl
   ·intro h
    rw [h] at hs
    cases hs
theorem yequal_calls (A : Option Addr) (c : Nat) (a : List S71) (B : Option Addr) (d : Nat) (b : List S71) (w : World) (hA : Kd.C k71 w A a.length a) (hc : a.length ≤ c) (hB : Kd.C k71 w B b.length b) (hd : b.length ≤ d) :
  Calls Tryz.prog 71 #[.slice A a.length c, .slice B b.length d] w fun e w' => e = .returned (.bool (eqL symE a b)) ∧ Below w.heap.size w w' := by
 have he : Ev (fun k => Q.api_Symbol.f k a b) (eqL symE a b) := by
  unfold Q.api_Symbol.f
  by_cases hl : a.length = b.length
  ·simp only [if_pos (show (a.length : Int) = (b.length : Int) by omega)]
   exact yloop_ev a b hA.2.1 hl _ 0 rfl (Nat.zero_le _)
  ·simp only [if_neg (show ¬ (a.length : Int) = (b.length : Int) by omega)]
   rw [eqL_len hl]
   exact ev_end fun k => rfl
 obtain ⟨k, hk⟩ := he.rounds
 exact (Q.api_Symbol.calls k A c a B d b _ w hA hc hB hd hk).mono fun e w' h => ⟨h.1, h.2.below⟩
structure B2 (w W : World) (xs ys : Array Value) (t : TypeId) : Prop where
 hb : Below w.heap.size w W
 a : W.heap[w.heap.size]? = some (.cells xs t (0, 0))
 b : W.heap[w.heap.size + 1]? = some (.cells ys t (0, 0))
theorem B2.start (w : World) (xs ys : Array Value) (t : TypeId) : B2 w ((w.alloc (.cells xs t)).alloc (.cells ys t)) xs ys t := ⟨aA_ (aA_ (Below.refl _ _) _) _, aD_ (aU_ w _) _, blk_at2 w _ _⟩
theorem B2.below {w W W1 : World} {xs ys : Array Value} {t : TypeId} (h : B2 w W xs ys t) (hb : Below W.heap.size W W1) : B2 w W1 xs ys t := ⟨aM_ h.hb h.hb.size hb, aK_ h.a hb, aK_ h.b hb⟩
def vF (f : S52) (As : Option Addr) (cs : Nat) (At : Option Addr) (ct : Nat) : Array Value := #[.string f.f0, .slice As f.f1.f0.length cs, .int .i64 f.f2.f0, .int .i64 f.f2.f1, .slice At f.f2.f2.length ct]
theorem B2.cells {w W : World} {f g : S52} {As Bs At Bt : Option Addr} {cs ds ct dt : Nat} (h : B2 w W (vF f As cs At ct) (vF g Bs ds Bt dt) 52) :
  (W.cell? ⟨w.heap.size, 0, none⟩ = some (.string f.f0) ∧ W.cell? ⟨w.heap.size, 1, none⟩ = some (.slice As f.f1.f0.length cs) ∧ W.cell? ⟨w.heap.size, 2, none⟩ = some (.int .i64 f.f2.f0) ∧ W.cell? ⟨w.heap.size, 3, none⟩ = some (.int .i64 f.f2.f1) ∧ W.cell? ⟨w.heap.size, 4, none⟩ = some (.slice At f.f2.f2.length ct)) ∧
  W.cell? ⟨w.heap.size + 1, 0, none⟩ = some (.string g.f0) ∧ W.cell? ⟨w.heap.size + 1, 1, none⟩ = some (.slice Bs g.f1.f0.length ds) ∧ W.cell? ⟨w.heap.size + 1, 2, none⟩ = some (.int .i64 g.f2.f0) ∧ W.cell? ⟨w.heap.size + 1, 3, none⟩ = some (.int .i64 g.f2.f1) ∧ W.cell? ⟨w.heap.size + 1, 4, none⟩ = some (.slice Bt g.f2.f2.length dt) :=
 ⟨⟨(aC_ h.a 0).trans rfl, (aC_ h.a 1).trans rfl, (aC_ h.a 2).trans rfl, (aC_ h.a 3).trans rfl, (aC_ h.a 4).trans rfl⟩, (aC_ h.b 0).trans rfl, (aC_ h.b 1).trans rfl, (aC_ h.b 2).trans rfl, (aC_ h.b 3).trans rfl, (aC_ h.b 4).trans rfl⟩
theorem tE_big {a b : S50} (h : tN a ≠ tN b) : tE a b = false := by
 cases e : tE a b with
 | false => rfl
 | true => rw [tE_iff.1 e] at h; exact absurd rfl h
theorem tSameV_small {a b : S50} (h : tN a ≤ 400) : tSameV a b = tE a b := by
 unfold tSameV largeV
 rw [l3_ (show ¬ 100000 < tN a by omega), Bool.not_false, Bool.true_and]
 by_cases hb : 100000 < tN b
 ·rw [tE_big (show tN a ≠ tN b by omega), Bool.and_false]
 ·rw [l3_ hb]; rfl
set_option maxHeartbeats 8000000 in
set_option maxRecDepth 100000 in
theorem fun1_calls (f g : S52) (As : Option Addr) (cs : Nat) (At : Option Addr) (ct : Nat) (Bs : Option Addr) (ds : Nat) (Bt : Option Addr) (dt : Nat) (w : World) (h1 : f.f1.f0.length ≤ cs) (hCs : Kd.C k47 w As f.f1.f0.length f.f1.f0) (h2 : f.f2.f2.length ≤ ct) (hCt : Kd.C k50 w At f.f2.f2.length f.f2.f2)
  (h3 : g.f1.f0.length ≤ ds) (hDs : Kd.C k47 w Bs g.f1.f0.length g.f1.f0) (h4 : g.f2.f2.length ≤ dt) (hDt : Kd.C k50 w Bt g.f2.f2.length g.f2.f2) (hN : sN f.f1 ≤ 60 ∧ tN f.f2 ≤ 400) :
  Calls Tryz.prog 73 #[.agg (vF f As cs At ct), .agg (vF g Bs ds Bt dt)] w fun E w' => E = .returned (.bool (funE f g)) ∧ Below w.heap.size w w' := by
 have HB := mk0 (B2.start w (vF f As cs At ct) (vF g Bs ds Bt dt) 52)
 have HT1 := mk0 (fun (W : World) (hW : Below w.heap.size w W) => sSame_calls f.f1 g.f1 As cs Bs ds W (Kd.C_below hCs hW) h1 (Kd.C_below hDs hW) h3)
 have HT2 := mk0 (fun (W : World) (hW : Below w.heap.size w W) => tSame_calls f.f2 g.f2 At ct Bt dt W (Kd.C_below hCt hW) h2 (Kd.C_below hDt hW) h4)
 rw [sSameV_small hN.1] at HT1
 rw [tSameV_small hN.2] at HT2
 have HV := mk0 (show funE f g = (f.f0.toList == g.f0.toList && sE f.f1 g.f1 && tE f.f2 g.f2) from rfl)
 clear h1 h2 h3 h4 hCs hCt hDs hDt hN
 generalize sE f.f1 g.f1 = b1 at *
 generalize tE f.f2 g.f2 = b2 at *
 unfold vF at HB ⊢
 go_enter Tryz.func73, Tryz.ntmps73
 go_upto_region 1 with (fail)
 generalize (w.alloc (.cells #[.string f.f0, .slice As f.f1.f0.length cs, .int .i64 f.f2.f0, .int .i64 f.f2.f1, .slice At f.f2.f2.length ct] 52)).alloc (.cells #[.string g.f0, .slice Bs g.f1.f0.length ds, .int .i64 g.f2.f0, .int .i64 g.f2.f1, .slice Bt g.f2.f2.length dt] 52) = W1 at *
 obtain ⟨⟨x0, x1, x2, x3, x4⟩, y0, y1, y2, y3, y4⟩ := B2.cells HB.out
 cases b0 : (f.f0.toList == g.f0.toList) with
 | false =>
  have HW := mk0 (show funE f g = false by rw [HV.out, b0]; rfl)
  clear HV
  go_wp2
  go_ret
  exact ⟨by rw [HW.out]; rfl, (HB.out).hb⟩
 | true =>
 rw [b0] at HV
 go_wp2_with fail
 refine (HT1.out _ (HB.out).hb).mono ?_
 rintro E W2 ⟨rfl, hb⟩
 have HB2 := mk0 ((HB.out).below hb)
 clear hb x0 x1 x2 x3 x4 y0 y1 y2 y3 y4 HT1 HB
 cases b1 with
 | false =>
  have HW := mk0 (show funE f g = false by rw [HV.out]; rfl)
  clear HV
  go_wp2
  go_ret
  exact ⟨by rw [HW.out]; rfl, (HB2.out).hb⟩
 | true =>
 have HW := mk0 (show funE f g = b2 by rw [HV.out]; rfl)
 clear HV
 obtain ⟨⟨x0, x1, x2, x3, x4⟩, y0, y1, y2, y3, y4⟩ := B2.cells HB2.out
 go_wp2_with fail
 refine (HT2.out _ (HB2.out).hb).mono ?_
 rintro E W3 ⟨rfl, hb⟩
 have HB3 := mk0 ((HB2.out).below hb)
 clear hb x0 x1 x2 x3 x4 y0 y1 y2 y3 y4 HT2 HB2
 go_wp2
 go_ret
 exact ⟨by rw [HW.out]; rfl, (HB3.out).hb⟩
set_option maxHeartbeats 8000000 in
set_option maxRecDepth 100000 in
theorem eqfun_calls (A : Option Addr) (c : Nat) (fs : List S52) (B : Option Addr) (d : Nat) (gs : List S52) (w : World) (hA : Kd.C k52 w A fs.length fs) (hB : Kd.C k52 w B gs.length gs) (hN : ∀ f ∈ fs, sN f.f1 ≤ 60 ∧ tN f.f2 ≤ 400) (hl : fs.length ≤ 1000000) :
  Calls Tryz.prog 72 #[.slice A fs.length c, .slice B gs.length d, .func (.func 73) #[] #[]] w fun E w' => E = .returned (.bool (eqL funE fs gs)) ∧ Below w.heap.size w w' := by
 have HA := mk0 hA
 have HB := mk0 hB
 have HN := mk0 hN
 have HL := mk0 hl
 clear hA hB hN hl
 go_enter Tryz.func72, Tryz.ntmps72
 go_upto_region 1 with (fail)
 by_cases e1 : fs.length = gs.length
 case neg =>
  have HV := mk0 (eqL_len (p := funE) e1)
  have e1z : ((fs.length : Int) != (gs.length : Int)) = true := by rw [bne_iff_ne]; omega
  clear e1
  go_wp2
  go_ret
  exact ⟨by rw [HV.out]; rfl, Below.refl _ _⟩
 have HE := mk0 e1
 have e1z : ((fs.length : Int) != (gs.length : Int)) = false := by rw [bne_eq_false_iff_eq]; omega
 clear e1
 go_wp2
 clear e1z
 go_loopg [17] fs.length (fun gg v17 wi => ∃ j : Nat, j ≤ fs.length ∧ fs.length - j ≤ gg ∧ v17 = .int .i64 j ∧ Aside0 (Below w.heap.size w wi) ∧ Aside0 (∀ i, i < j → funE (rd_T52 fs (i : Int)) (rd_T52 gs (i : Int)) = true))
 case atStart => exact ⟨0, Nat.zero_le _, Nat.le_refl _, rfl, ⟨Below.refl _ _⟩, ⟨fun i hi => absurd hi (Nat.not_lt_zero _)⟩⟩
 case round =>
  obtain ⟨j, hj, hgg, rfl, HW, HP⟩ := hrel
  by_cases hlt : j < fs.length
  ·have hltz : (j : Int) < (fs.length : Int) := by omega
   have hlt2 : j < gs.length := by have := HE.out; omega
   have hltz2 : (j : Int) < (gs.length : Int) := by omega
   have HLT := mk0 hlt
   obtain ⟨ad, As, cs, At, ct, e, hx0, hx1, hx2, hx3, hx4, hls, hCs, hlt4, hCt⟩ := at_T52 HA.out (j : Int) (by omega) hltz
   subst e
   obtain ⟨bd, Bs, ds, Bt, dt, e, hy0, hy1, hy2, hy3, hy4, hms, hDs, hmt4, hDt⟩ := at_T52 HB.out (j : Int) (by omega) hltz2
   subst e
   rw [l14_] at hx0 hx1 hx2 hx3 hx4 hy0 hy1 hy2 hy3 hy4
   replace hx0 := aP_ HW.out hx0
   replace hx1 := aP_ HW.out hx1
   replace hx2 := aP_ HW.out hx2
   replace hx3 := aP_ HW.out hx3
   replace hx4 := aP_ HW.out hx4
   replace hy0 := aP_ HW.out hy0
   replace hy1 := aP_ HW.out hy1
   replace hy2 := aP_ HW.out hy2
   replace hy3 := aP_ HW.out hy3
   replace hy4 := aP_ HW.out hy4
   have HKZ := mk0 (show wrap64 ((j : Int) + 1) = ((j + 1 : Nat) : Int) by rw [wr_id (by omega) (by have := HL.out; omega)]; rfl)
   have HNN := mk0 (HN.out (rd_T52 fs (j : Int)) (by rw [rdF_at hlt]; exact l11_ hlt))
   have HBAD := mk0 (fun (h : funE (rd_T52 fs (j : Int)) (rd_T52 gs (j : Int)) = false) => eqL_bad (l := fs) (m := gs) (p := funE) hlt hlt2 (by rwa [rdF_at hlt, rdF_at hlt2] at h))
   have HGD := mk0 (fun (h : funE (rd_T52 fs (j : Int)) (rd_T52 gs (j : Int)) = true) => upto_succ (P := fun i => funE (rd_T52 fs (i : Int)) (rd_T52 gs (i : Int)) = true) HP.out h)
   clear hlt hlt2
   generalize rd_T52 fs (j : Int) = f at *
   generalize rd_T52 gs (j : Int) = g at *
   have HCC := mk0 (And.intro (And.intro hls hCs) (And.intro (And.intro hlt4 hCt) (And.intro (And.intro hms hDs) (And.intro hmt4 hDt))))
   clear hls hCs hlt4 hCt hms hDs hmt4 hDt
   have hnn : (0 : Int) ≤ (j : Int) := by omega
   go_upto_region 6 with (fail)
   replace hy0 := aP_ (aA_ (Below.refl wr.heap.size wr) (.cells #[.string f.f0, .slice As f.f1.f0.length cs, .int .i64 f.f2.f0, .int .i64 f.f2.f1, .slice At f.f2.f2.length ct] 52)) hy0
   replace hy1 := aP_ (aA_ (Below.refl wr.heap.size wr) (.cells #[.string f.f0, .slice As f.f1.f0.length cs, .int .i64 f.f2.f0, .int .i64 f.f2.f1, .slice At f.f2.f2.length ct] 52)) hy1
   replace hy2 := aP_ (aA_ (Below.refl wr.heap.size wr) (.cells #[.string f.f0, .slice As f.f1.f0.length cs, .int .i64 f.f2.f0, .int .i64 f.f2.f1, .slice At f.f2.f2.length ct] 52)) hy2
   replace hy3 := aP_ (aA_ (Below.refl wr.heap.size wr) (.cells #[.string f.f0, .slice As f.f1.f0.length cs, .int .i64 f.f2.f0, .int .i64 f.f2.f1, .slice At f.f2.f2.length ct] 52)) hy3
   replace hy4 := aP_ (aA_ (Below.refl wr.heap.size wr) (.cells #[.string f.f0, .slice As f.f1.f0.length cs, .int .i64 f.f2.f0, .int .i64 f.f2.f1, .slice At f.f2.f2.length ct] 52)) hy4
   go_upto_region 7 with (fail)
   have HB2 := mk0 (show B2 wr ((wr.alloc (.cells #[.string f.f0, .slice As f.f1.f0.length cs, .int .i64 f.f2.f0, .int .i64 f.f2.f1, .slice At f.f2.f2.length ct] 52)).alloc (.cells #[.string g.f0, .slice Bs g.f1.f0.length ds, .int .i64 g.f2.f0, .int .i64 g.f2.f1, .slice Bt g.f2.f2.length dt] 52)) (vF f As cs At ct) (vF g Bs ds Bt dt) 52 from B2.start wr _ _ 52)
   clear hx0 hx1 hx2 hx3 hx4 hy0 hy1 hy2 hy3 hy4
   have HSZ : (wr.alloc (.cells #[.string f.f0, .slice As f.f1.f0.length cs, .int .i64 f.f2.f0, .int .i64 f.f2.f1, .slice At f.f2.f2.length ct] 52)).heap.size = wr.heap.size + 1 := by simp
   generalize (wr.alloc (.cells #[.string f.f0, .slice As f.f1.f0.length cs, .int .i64 f.f2.f0, .int .i64 f.f2.f1, .slice At f.f2.f2.length ct] 52)).alloc (.cells #[.string g.f0, .slice Bs g.f1.f0.length ds, .int .i64 g.f2.f0, .int .i64 g.f2.f1, .slice Bt g.f2.f2.length dt] 52) = W2 at *
   try rw [HSZ]
   clear HSZ
   obtain ⟨⟨x0, x1, x2, x3, x4⟩, y0, y1, y2, y3, y4⟩ := B2.cells HB2.out
   have HW2 := mk0 (aM_ HW.out (HW.out).size (HB2.out).hb)
   have HC := mk0 (show Calls Tryz.prog 73 #[.agg #[.string f.f0, .slice As f.f1.f0.length cs, .int .i64 f.f2.f0, .int .i64 f.f2.f1, .slice At f.f2.f2.length ct], .agg #[.string g.f0, .slice Bs g.f1.f0.length ds, .int .i64 g.f2.f0, .int .i64 g.f2.f1, .slice Bt g.f2.f2.length dt]] W2 _ from
    fun1_calls f g As cs At ct Bs ds Bt dt W2 (HCC.out).1.1 (Kd.C_below (HCC.out).1.2 HW2.out) (HCC.out).2.1.1 (Kd.C_below (HCC.out).2.1.2 HW2.out) (HCC.out).2.2.1.1 (Kd.C_below (HCC.out).2.2.1.2 HW2.out) (HCC.out).2.2.2.1 (Kd.C_below (HCC.out).2.2.2.2 HW2.out) HNN.out)
   go_wp2_with fail
   refine (HC.out).mono ?_
   rintro E W3 ⟨rfl, hb⟩
   have HW3 := mk0 (aM_ HW2.out (HW2.out).size hb)
   clear hb x0 x1 x2 x3 x4 y0 y1 y2 y3 y4 HC HB2
   cases hv : funE f g with
   | false =>
    have HF := mk0 (HBAD.out hv)
    clear hv
    go_wp2
    go_ret
    exact ⟨by rw [HF.out]; rfl, HW3.out⟩
   | true =>
    have HG := mk0 (HGD.out hv)
    clear hv
    go_wp2
    go_roundg (fs.length - (j + 1))
    case measure => have := HLT.out; omega
    case rel => exact ⟨j + 1, HLT.out, Nat.le_refl _, by rw [HKZ.out], HW3, HG⟩
  ·have hltz : ¬ (j : Int) < (fs.length : Int) := by omega
   have HV := mk0 (show eqL funE fs gs = true from eqL_all HE.out fun i h1 h2 => by
    have := HP.out i (by omega)
    rwa [rdF_at h1, rdF_at h2] at this)
   go_wp2
   go_ret
   exact ⟨by rw [HV.out]; rfl, HW.out⟩
def samS (sy : List S71) (fs : List S52) (ty : List S71) (gs : List S52) : Bool := schB sy fs && schB ty gs && eqS sy fs ty gs
theorem samS_a {sy ty : List S71} {fs gs : List S52} (h : schB sy fs = false) : samS sy fs ty gs = false := by unfold samS; rw [h]; rfl
theorem samS_b {sy ty : List S71} {fs gs : List S52} (h : schB ty gs = false) : samS sy fs ty gs = false := by unfold samS; rw [h, Bool.and_false]; rfl
theorem samS_ab {sy ty : List S71} {fs gs : List S52} (h : schB sy fs = true) (g : schB ty gs = true) : samS sy fs ty gs = eqS sy fs ty gs := by unfold samS; rw [h, g]; rfl
theorem schB_small2 {sy : List S71} {fs : List S52} (h : schB sy fs = true) : ∀ f ∈ fs, sN f.f1 ≤ 60 ∧ tN f.f2 ≤ 400 := fun f hf =>
 ⟨srtB_N ((scOk h).srt f hf).1, ((scOk h).bod f hf).1⟩
set_option maxHeartbeats 16000000 in
set_option maxRecDepth 100000 in
theorem ssameG_calls (sy ty : List S71) (fs gs : List S52) (A1 A2 B1 B2 : Option Addr) (c1 c2 d1 d2 : Nat) (w : World) (hS : Kd.C k71 w A1 sy.length sy) (hF : Kd.C k52 w A2 fs.length fs) (hS2 : Kd.C k71 w B1 ty.length ty) (hF2 : Kd.C k52 w B2 gs.length gs)
  (hc1 : sy.length ≤ c1) (hc2 : fs.length ≤ c2) (hd1 : ty.length ≤ d1) (hd2 : gs.length ≤ d2) :
  Calls Tryz.prog 29 #[.agg #[.slice A1 sy.length c1, .slice A2 fs.length c2], .agg #[.slice B1 ty.length d1, .slice B2 gs.length d2]] w fun E w' => E = .returned (.bool (samS sy fs ty gs)) ∧ Below w.heap.size w w' := by
 have H1 := mk0 fun W (hW : Below w.heap.size w W) => scheme_calls sy fs A1 A2 c1 c2 W (Kd.C_below hS hW) (Kd.C_below hF hW)
 have H2 := mk0 fun W (hW : Below w.heap.size w W) => scheme_calls ty gs B1 B2 d1 d2 W (Kd.C_below hS2 hW) (Kd.C_below hF2 hW)
 have H3 := mk0 fun W (hW : Below w.heap.size w W) => yequal_calls A1 c1 sy B1 d1 ty W (Kd.C_below hS hW) hc1 (Kd.C_below hS2 hW) hd1
 have H4 := mk0 fun (hv : schB sy fs = true) W (hW : Below w.heap.size w W) => eqfun_calls A2 c2 fs B2 d2 gs W (Kd.C_below hF hW) (Kd.C_below hF2 hW) (schB_small2 hv) (schB_small hv).2.2
 have HB := mk0 (BX.start w (.slice A1 sy.length c1) (.slice A2 fs.length c2) (.slice B1 ty.length d1) (.slice B2 gs.length d2))
 clear hS hF hS2 hF2 hc1 hc2 hd1 hd2
 go_enter Tryz.func29, Tryz.ntmps29
 go_upto_region 1 with (fail)
 generalize ((w.alloc (.cells #[.slice A1 sy.length c1, .slice A2 fs.length c2] 25)).alloc (.cells #[.slice B1 ty.length d1, .slice B2 gs.length d2] 25)) = W1 at *
 obtain ⟨⟨p0, p1⟩, q0, q1⟩ := (HB.out).cells
 go_wp2_with fail
 refine (H1.out _ (HB.out).hb).mono ?_
 rintro E W2 ⟨rfl, hb⟩
 have HB2 := mk0 ((HB.out).below hb)
 clear hb p0 p1 q0 q1 HB H1
 cases v1 : schB sy fs with
 | false =>
  have HV := mk0 (samS_a (ty := ty) (gs := gs) v1)
  rw [schV_bad v1]
  clear v1
  go_wp2
  go_ret
  exact ⟨by rw [HV.out]; rfl, (HB2.out).hb⟩
 | true =>
 have HV1 := mk0 v1
 rw [schV_good v1]
 clear v1
 obtain ⟨⟨p0, p1⟩, q0, q1⟩ := (HB2.out).cells
 go_wp2_with fail
 refine (H2.out _ (HB2.out).hb).mono ?_
 rintro E W3 ⟨rfl, hb⟩
 have HB3 := mk0 ((HB2.out).below hb)
 clear hb p0 p1 q0 q1 HB2 H2
 cases v2 : schB ty gs with
 | false =>
  have HV := mk0 (samS_b (sy := sy) (fs := fs) v2)
  rw [schV_bad v2]
  clear v2
  go_wp2
  go_ret
  exact ⟨by rw [HV.out]; rfl, (HB3.out).hb⟩
 | true =>
 have HV := mk0 (samS_ab HV1.out v2)
 rw [schV_good v2]
 clear v2
 obtain ⟨⟨p0, p1⟩, q0, q1⟩ := (HB3.out).cells
 go_wp2_with fail
 refine (H3.out _ (HB3.out).hb).mono ?_
 rintro E W4 ⟨rfl, hb⟩
 have HB4 := mk0 ((HB3.out).below hb)
 clear hb p0 p1 q0 q1 HB3 H3
 cases v3 : eqL symE sy ty with
 | false =>
  have HW := mk0 (HV.out.trans (eqS_y v3))
  clear v3
  go_wp2
  go_ret
  exact ⟨by rw [HW.out]; rfl, (HB4.out).hb⟩
 | true =>
 have HW := mk0 (HV.out.trans (show eqS sy fs ty gs = eqL funE fs gs by unfold eqS; rw [v3]; rfl))
 clear v3
 obtain ⟨⟨p0, p1⟩, q0, q1⟩ := (HB4.out).cells
 go_wp2_with fail
 refine (H4.out HV1.out _ (HB4.out).hb).mono ?_
 rintro E W5 ⟨rfl, hb⟩
 have HB5 := mk0 ((HB4.out).below hb)
 clear hb p0 p1 q0 q1 HB4 H4
 go_wp2
 go_ret
 exact ⟨by rw [HW.out]; rfl, (HB5.out).hb⟩
mutual
def tC (k : Int) : S50 → Bool
 | ⟨a, n, l⟩ => (decide (a = 1) && decide (n = k)) || tCL k l
def tCL (k : Int) : List S50 → Bool
 | [] => false
 | x :: r => tC k x || tCL k r
end
theorem tCL_mem {k : Int} {l : List S50} : tCL k l = true ↔ ∃ x ∈ l, tC k x = true := by
 induction l with
 | nil => simp [tCL]
 | cons a r ih => rw [tCL, Bool.or_eq_true, ih]; simp
theorem tC_iff {k : Int} {t : S50} : tC k t = true ↔ (t.f0 = 1 ∧ t.f1 = k) ∨ ∃ x ∈ t.f2, tC k x = true := by
 obtain ⟨a, n, l⟩ := t
 rw [tC, Bool.or_eq_true, l19_, l20_, l20_, tCL_mem]
theorem argsV_at {sy : List S71} {fu pa : List S47} {l : List S50} {s : List S47} (h : argsV sy fu pa l s = true) {i : Nat} (hi : i < l.length) : argOk sy fu pa l[i] (rd_T47 s (i : Int)) = true := by
 cases e : argOk sy fu pa l[i] (rd_T47 s (i : Int)) with
 | true => rfl
 | false => rw [argsV_false hi e] at h; cases h
theorem ofV_parts {sy : List S71} {fu pa : List S47} {t : S50} {x : List S47} (h : ofV sy fu pa t = some x) : ∃ s, headV sy fu pa t.f0 t.f1 = some s ∧ t.f2.length ≤ s.length ∧ argsV sy fu pa t.f2 s = true ∧ x = s.drop t.f2.length := by
 obtain ⟨k, n, l⟩ := t
 rw [ofV] at h
 cases e : headV sy fu pa k n with
 | none => rw [e] at h; cases h
 | some s =>
  rw [e] at h
  simp only at h
  refine ⟨s, rfl, ?_⟩
  split at h
  ·cases h
  ·split at h
   ·cases h
    exact ⟨by simp only; omega, by assumption, rfl⟩
   ·cases h
theorem headV_fun {sy : List S71} {fu pa : List S47} {n : Int} {s : List S47} (h : headV sy fu pa 1 n = some s) : 0 ≤ n ∧ n < (fu.length : Int) := by
 unfold headV at h
 by_cases h0 : n < 0
 ·rw [if_pos h0] at h; cases h
 rw [if_neg h0, if_neg (by decide), if_pos rfl] at h
 by_cases h1 : n < (fu.length : Int)
 ·exact ⟨by omega, h1⟩
 ·rw [if_neg h1] at h; cases h
theorem argOk_some {sy : List S71} {fu pa : List S47} {a : S50} {b : S47} (h : argOk sy fu pa a b = true) : ofV sy fu pa a = some b.f0 := by
 unfold argOk at h
 cases e : ofV sy fu pa a with
 | none => rw [e] at h; cases h
 | some y =>
  rw [e] at h
  have := sE_iff.1 h
  rw [← this]
theorem ofV_calls {sy : List S71} {fu pa : List S47} (N : Nat) : ∀ (t : S50), tN t ≤ N → ∀ {x : List S47}, ofV sy fu pa t = some x → ∀ k : Int, tC k t = true → 0 ≤ k ∧ k < (fu.length : Int) := by
 induction N with
 | zero => intro t h; have := tN_pos t; omega
 | succ N ih =>
  intro t hN x hx k hk
  obtain ⟨s, h1, h2, h3, _⟩ := ofV_parts hx
  rcases tC_iff.1 hk with ⟨e1, e2⟩ | ⟨y, hy, hyk⟩
  ·rw [e1, e2] at h1
   exact headV_fun h1
  ·obtain ⟨i, hi, rfl⟩ := List.mem_iff_getElem.1 hy
   refine ih _ ?_ (argOk_some (argsV_at h3 hi)) k hyk
   have := tN_mem (l11_ hi)
   obtain ⟨a, n, l⟩ := t
   rw [tN] at hN
   simp only at this ⊢
   omega
inductive Rch (fs : List S52) : Nat → Prop
 | start : Rch fs 0
 | step {i k : Nat} (h : Rch fs i) (hi : i < fs.length) (hc : tC (k : Int) fs[i].f2 = true) : Rch fs k
def OkR (fs : List S52) (x : Int) : Prop := ∃ j : Nat, x = (j : Int) ∧ j < fs.length ∧ Rch fs j
def bodyAt (fs : List S52) (x : Int) : S50 := (rd_T52 fs x).f2
theorem bodyAt_at {fs : List S52} {j : Nat} (h : j < fs.length) : bodyAt fs (j : Int) = fs[j].f2 := by unfold bodyAt; rw [rdF_at h]
def CallsOk (fs : List S52) : Prop := ∀ (j : Nat) (h : j < fs.length) (k : Int), tC k fs[j].f2 = true → 0 ≤ k ∧ k < (fs.length : Int)
theorem schB_seven {sy : List S71} {fs : List S52} (h : schB sy fs = true) : symsB sy = true ∧ 1 ≤ fs.length ∧ fs.length ≤ 64 ∧ (rd_T52 fs 0).f1.f0.length = 0 ∧ (∀ f ∈ fs, headOk f = true) ∧ (fs.map (·.f0)).Nodup ∧ ∀ f ∈ fs, bodyOk sy fs f = true := by
 unfold schB at h
 simp only [l19_, l20_, List.all_eq_true] at h
 obtain ⟨⟨⟨⟨⟨⟨h1, h2⟩, h3⟩, h4⟩, h5⟩, h6⟩, h7⟩ := h
 exact ⟨h1, h2, h3, h4, h5, h6, h7⟩
theorem bodyOk_parts {sy : List S71} {fs : List S52} {f : S52} (h : bodyOk sy fs f = true) : tN f.f2 ≤ 400 ∧ tD f.f2 ≤ 30 ∧ ofV sy (fs.map (·.f1)) f.f1.f0 f.f2 = some [] := by
 unfold bodyOk endO at h
 simp only [l19_, l20_] at h
 obtain ⟨⟨h1, h2⟩, h3, h4⟩ := h
 refine ⟨h1, h2, ?_⟩
 cases e : ofV sy (fs.map (·.f1)) f.f1.f0 f.f2 with
 | none => rw [e] at h3; cases h3
 | some x =>
  rw [e] at h4
  have : x = [] := List.eq_nil_of_length_eq_zero h4
  rw [this]
theorem schB_calls {sy : List S71} {fs : List S52} (h : schB sy fs = true) : CallsOk fs := by
 intro j hj k hk
 have := ofV_calls _ _ (Nat.le_refl _) (bodyOk_parts ((schB_seven h).2.2.2.2.2.2 _ (l11_ hj))).2.2 k hk
 rwa [List.length_map] at this
def IsR (fs : List S52) (l : List Int) : Prop := l.Pairwise (· < ·) ∧ ∀ k : Int, k ∈ l ↔ OkR fs k
structure DFS (fs : List S52) (M M1 : List Int) : Prop where
 sub : ∀ x ∈ M, x ∈ M1
 ok : ∀ x ∈ M1, OkR fs x
 cl : ∀ x ∈ M1, x ∉ M → ∀ k : Int, tC k (bodyAt fs x) = true → k ∈ M1
 len : M.length ≤ M1.length
theorem DFS.refl {fs : List S52} {M : List Int} (h : ∀ x ∈ M, OkR fs x) : DFS fs M M := ⟨fun _ h => h, h, fun x h1 h2 => absurd h1 h2, Nat.le_refl _⟩
theorem DFS.trans {fs : List S52} {M M1 M2 : List Int} (h : DFS fs M M1) (g : DFS fs M1 M2) : DFS fs M M2 :=
 ⟨fun x hx => g.sub x (h.sub x hx), g.ok, fun x hx hn k hk => by
  by_cases hm : x ∈ M1
  ·exact g.sub k (h.cl x hm hn k hk)
  ·exact g.cl x hx hm k hk, Nat.le_trans h.len g.len⟩
theorem DFS.meet {fs : List S52} {M M2 : List Int} {f : Int} (h : DFS fs (M ++ [f]) M2) (hb : ∀ k : Int, tC k (bodyAt fs f) = true → k ∈ M2) : DFS fs M M2 :=
 ⟨fun x hx => h.sub x (List.mem_append_left _ hx), h.ok, fun x hx hn k hk => by
  by_cases e : x = f
  ·subst e; exact hb k hk
  ·exact h.cl x hx (fun hm => by rcases List.mem_append.1 hm with h1 | h1; exact hn h1; exact e (List.mem_singleton.1 h1)) k hk, by have := h.len; rw [l7_] at this; omega⟩
theorem DFS.all {fs : List S52} {M : List Int} (h : DFS fs [] M) (h0 : (0 : Int) ∈ M) : ∀ j : Nat, Rch fs j → (j : Int) ∈ M := by
 intro j hj
 induction hj with
 | start => exact h0
 | step _ hi hc ih => exact h.cl _ ih (by simp) _ (by rw [bodyAt_at hi]; exact hc)
theorem nodup_bound : ∀ (n : Nat) (l : List Int), l.Nodup → (∀ x ∈ l, 0 ≤ x ∧ x < (n : Int)) → l.length ≤ n
 | 0, [], _, _ => by simp
 | 0, a :: r, _, h => by have := h a (by simp); omega
 | n + 1, l, hn, h => by
  have h1 : (l.erase (n : Int)).length ≤ n := nodup_bound n _ (hn.erase _) fun x hx => by
   have h2 := h x (List.mem_of_mem_erase hx)
   have h3 : x ≠ (n : Int) := fun e => by subst e; exact (List.Nodup.not_mem_erase hn) hx
   omega
  rw [List.length_erase] at h1
  split at h1 <;> omega
theorem OkR.room {fs : List S52} {M : List Int} {f : Int} (hn : M.Nodup) (hM : ∀ x ∈ M, OkR fs x) (hf : f ∉ M) (h0 : 0 ≤ f) (h1 : f < (fs.length : Int)) : M.length + 1 ≤ fs.length := by
 have := nodup_bound fs.length (M ++ [f]) (List.nodup_append.2 ⟨hn, by simp, fun a ha b hb => by rw [List.mem_singleton.1 hb]; exact fun e => hf (e ▸ ha)⟩) (fun x hx => by
  rcases List.mem_append.1 hx with hx | hx
  ·obtain ⟨j, rfl, hj, _⟩ := hM x hx
   omega
  ·rw [List.mem_singleton.1 hx]; exact ⟨h0, h1⟩)
 rwa [l7_, l10_] at this
def wf64 (x : Int) : Prop := (Lit.int .i64 x).wf = true
theorem wf64_of {x : Int} (h0 : 0 ≤ x) (h1 : x < 9223372036854775808) : wf64 x := by
 simp [wf64, Lit.wf, IntKind.min, IntKind.max, IntKind.signed, IntKind.bits]; omega
theorem keyInt : KeyB Tryz.prog 3 (Value.int .i64) wf64 where
 K := Go.Maps.int_keyed Tryz.underlying3
 lit := fun _ h => ⟨_, Go.Maps.keyOf_int_mk Tryz.underlying3 h⟩
 inj := fun x y h => by cases h; rfl
def truI (ns : List Int) : List (Int × Bool) := ns.map fun s => (s, true)
theorem truI_keys (ns : List Int) : (truI ns).map (·.1) = ns := by unfold truI; simp [Function.comp_def]
theorem mget_truI_not {ns : List Int} {x : Int} (h : x ∉ ns) : mget x (truI ns) = none := mget_none.2 (by rw [truI_keys]; exact h)
theorem mget_truI_mem {ns : List Int} {x : Int} (h : x ∈ ns) : mget x (truI ns) = some true := by
 induction ns with
 | nil => cases h
 | cons a r ih =>
  unfold truI mget at ih ⊢
  rw [List.map_cons, List.find?_cons]
  by_cases e : a = x
  ·subst e; simp
  ·simp only [l3_ e]
   rcases List.mem_cons.1 h with rfl | h
   ·exact absurd rfl e
   ·exact ih h
theorem truI_snoc {ns : List Int} {x : Int} (h : x ∉ ns) : mput x true (truI ns) = truI (ns ++ [x]) := by
 rw [mput_new (by rw [truI_keys]; exact h)]
 unfold truI
 rw [List.map_append]
 rfl
def BornOk (w : World) (B : Nat) : Prop := ∃ ms ck, w.heap[B]? = some (.map ms ck) ∧ (ms.toList.map (·.born)).Nodup ∧ ∀ e ∈ ms.toList, e.born < ck
theorem BornOk.kept {w w1 : World} {B : Nat} (h : BornOk w B) (hb : w1.heap[B]? = w.heap[B]?) : BornOk w1 B := by
 obtain ⟨ms, ck, h1, h2⟩ := h
 exact ⟨ms, ck, hb.trans h1, h2⟩
theorem BornOk.new (w : World) : BornOk (w.alloc (.map #[] 0)) w.heap.size := ⟨#[], 0, heap_alloc_new w _, by simp, by simp⟩
theorem BornOk.lt {w : World} {B : Nat} (h : BornOk w B) : B < w.heap.size := by
 obtain ⟨ms, ck, h1, _⟩ := h
 exact (Array.getElem?_eq_some_iff.1 h1).1
theorem BornOk.below {w w1 : World} {B : Nat} (h : BornOk w B) (hb : Below w.heap.size w w1) : BornOk w1 B := h.kept (hb.block B h.lt)
theorem mapIs_put_born {κ ν : Type} [DecidableEq κ] {P : Program} {w : World} {B : Nat} {enc : κ → Value} {encV : ν → Value} {dom : κ → Prop} {es : List (κ × ν)} {k t e : TypeId} (h : MapIs w B enc encV dom es) (hb0 : BornOk w B) (H : KeyB P k enc dom) (ht : P.underlying t = some (.map k e)) {x : κ} (hx : dom x) (v : ν) (hnew : x ∉ es.map (·.1)) :
  ∃ w', (Instr.mapUpdate t (.map (some B)) (enc x) (encV v)).run P w = .ok () w' ∧ MapIs w' B enc encV dom (mput x v es) ∧ w.grownBy w' (some B) ∧ BornOk w' B := by
 obtain ⟨w', h1, h2, h3⟩ := MapIs.put h H ht hx v
 refine ⟨w', h1, h2, h3, ?_⟩
 have hlt := h.lt
 obtain ⟨⟨ms, ck, hb, hms⟩, hnd, hd⟩ := h
 obtain ⟨ms2, ck2, hb2, hn2, hc2⟩ := hb0
 rw [hb] at hb2
 cases hb2
 obtain ⟨l, hl⟩ := H.lit x hx
 rcases find_keys H hms hd hx w hnd with ⟨_, h5⟩ | ⟨u, j, h4, _, _⟩
 ·have hrun : (Instr.mapUpdate t (.map (some B)) (enc x) (encV v)).run P w = .ok () (Go.ChangeMaps.setBlock w B (.map (ms.push ⟨enc x, encV v, ck⟩) (ck + 1))) := by
   simp [Instr.mapUpdate, run_underlying ht, MapKept.run_getObj_map hb, H.K.check w false hl, h5, MapKept.run_setObj_map _ hb, Result.andThen, Go.ChangeMaps.setBlock]
  rw [hrun] at h1
  cases h1
  refine ⟨ms.push ⟨enc x, encV v, ck⟩, ck + 1, by simp [Go.ChangeMaps.setBlock, hlt], ?_, ?_⟩
  ·rw [Array.toList_push, List.map_append]
   refine List.nodup_append.2 ⟨hn2, by simp, fun a ha b hb' => ?_⟩
   obtain ⟨q, hq, rfl⟩ := List.mem_map.1 ha
   have : b = ck := by simpa using hb'
   rw [this]
   have := hc2 q hq
   omega
  ·intro q hq
   rw [Array.toList_push] at hq
   rcases List.mem_append.1 hq with hq | hq
   ·have := hc2 q hq; omega
   ·rw [List.mem_singleton.1 hq]; exact Nat.lt_succ_self _
 ·exfalso
  rw [mget_none.2 hnew] at h4
  cases h4
def pB (b : Nat) : Value := .pointer (some ⟨b, 0, none⟩)
structure RF (w W : World) (mb : Nat) (s1 s2 : Value) (M : List Int) : Prop where
 hb : Below w.heap.size w W
 hs : W.heap[w.heap.size]? = some (.cells #[s1, s2] 25 (0, 0))
 hp : W.heap[mb + 1]? = some (.cells #[.map (some mb)] 121 (0, 0))
 h6 : W.heap[mb + 2]? = some (.cells #[.func (.func 81) #[] #[pB (mb + 1), pB (mb + 3), pB w.heap.size]] 122 (0, 0))
 h7 : W.heap[mb + 3]? = some (.cells #[.func (.func 80) #[] #[pB (mb + 2), pB (mb + 3)]] 123 (0, 0))
 hm : MapIs W mb (Value.int .i64) Value.bool wf64 (truI M)
 hn : BornOk W mb
 lt : w.heap.size < mb
section
variable {w W W1 : World} {mb : Nat} {s1 s2 : Value} {M M1 : List Int}
theorem RF.call (h : RF w W mb s1 s2 M) (hk : KR mb W W1) (hm : MapIs W1 mb (Value.int .i64) Value.bool wf64 (truI M1)) (hn : BornOk W1 mb) : RF w W1 mb s1 s2 M1 :=
 ⟨Below.trans h.hb (Below.mono hk.lo (Nat.le_of_lt h.lt)), hk.blk (by have := h.lt; omega) h.hs, hk.blk (by omega) h.hp, hk.blk (by omega) h.h6, hk.blk (by omega) h.h7, hm, hn, h.lt⟩
theorem RF.size (h : RF w W mb s1 s2 M) : mb + 3 < W.heap.size := blk_lt h.h7
theorem RF.below (h : RF w W mb s1 s2 M) (hb : Below W.heap.size W W1) : RF w W1 mb s1 s2 M := h.call (KR.below (by have := h.size; omega) hb) (h.hm.below hb) (h.hn.below hb)
theorem RF.nodup (h : RF w W mb s1 s2 M) : M.Nodup := by
 have := h.hm.2.1
 rwa [truI_keys] at this
theorem RF.cells (h : RF w W mb s1 s2 M) : (W.cell? ⟨w.heap.size, 0, none⟩ = some s1 ∧ W.cell? ⟨w.heap.size, 1, none⟩ = some s2) ∧ W.cell? ⟨mb + 1, 0, none⟩ = some (.map (some mb)) ∧ W.cell? ⟨mb + 2, 0, none⟩ = some (.func (.func 81) #[] #[pB (mb + 1), pB (mb + 3), pB w.heap.size]) ∧ W.cell? ⟨mb + 3, 0, none⟩ = some (.func (.func 80) #[] #[pB (mb + 2), pB (mb + 3)]) :=
 ⟨⟨(aC_ h.hs 0).trans rfl, (aC_ h.hs 1).trans rfl⟩, (aC_ h.hp 0).trans rfl, (aC_ h.h6 0).trans rfl, (aC_ h.h7 0).trans rfl⟩
end
def MtQ (fs : List S52) (w : World) (mb : Nat) (s1 s2 : Value) (M : List Int) (P : Int → Prop) (W : World) (E : Ending) (W1 : World) : Prop :=
 E = .returned (.tuple #[]) ∧ KR mb W W1 ∧ ∃ M1 : List Int, RF w W1 mb s1 s2 M1 ∧ DFS fs M M1 ∧ ∀ k, P k → k ∈ M1
def LookAt (fs : List S52) (w : World) (mb : Nat) (s1 s2 : Value) (U : Nat) (N : Nat) : Prop :=
 ∀ (t : S50), tN t ≤ N → ∀ (A : Option Addr) (c : Nat) (M : List Int) (W : World), Kd.C k50 w A t.f2.length t.f2 → RF w W mb s1 s2 M → (∀ x ∈ M, OkR fs x) → fs.length ≤ M.length + U → (∀ k, tC k t = true → OkR fs k) →
  Calls Tryz.prog 80 #[.agg #[.int .i64 t.f0, .int .i64 t.f1, .slice A t.f2.length c], pB (mb + 2), pB (mb + 3)] W (MtQ fs w mb s1 s2 M (fun k => tC k t = true) W)
def MeetAt (fs : List S52) (w : World) (mb : Nat) (s1 s2 : Value) (U : Nat) : Prop :=
 ∀ (f : Int) (M : List Int) (W : World), RF w W mb s1 s2 M → (∀ x ∈ M, OkR fs x) → fs.length ≤ M.length + U → OkR fs f →
  Calls Tryz.prog 81 #[.int .i64 f, pB (mb + 1), pB (mb + 3), pB w.heap.size] W (MtQ fs w mb s1 s2 M (fun k => k = f) W)
theorem upto_succ2 {P : Nat → Prop} {j : Nat} (h : ∀ i, i < j → P i) (hj : P j) : ∀ i, i < j + 1 → P i := fun i hi => by
 rcases Nat.lt_or_ge i j with h2 | h2
 ·exact h i h2
 ·rw [show i = j by omega]; exact hj
structure LB (w W1 : World) (b : Nat) (x y z : Value) : Prop where
 h : W1.heap[b]? = some (.cells #[x, y, z] 50 (0, 0))
theorem LB.cells {w W1 : World} {b : Nat} {x y z : Value} (h : LB w W1 b x y z) : W1.cell? ⟨b, 0, none⟩ = some x ∧ W1.cell? ⟨b, 1, none⟩ = some y ∧ W1.cell? ⟨b, 2, none⟩ = some z :=
 ⟨(aC_ h.h 0).trans rfl, (aC_ h.h 1).trans rfl, (aC_ h.h 2).trans rfl⟩
set_option maxHeartbeats 8000000 in
set_option maxRecDepth 100000 in
theorem look_of {fs : List S52} {w : World} {mb : Nat} {s1 s2 : Value} {U : Nat} (hM : MeetAt fs w mb s1 s2 U) : ∀ N, N ≤ 1000 → LookAt fs w mb s1 s2 U N := by
 intro N
 induction N with
 | zero => intro _ t h; have := tN_pos t; omega
 | succ N ih =>
  intro hN t ht A c M W hC hF hok hU hk
  obtain ⟨kd, n, l⟩ := t
  rw [tN] at ht
  have IH := mk0 (ih (by omega))
  have HM := mk0 hM
  have HLEN := mk0 (show l.length ≤ 1000 from by have := tLen_le (l := l); omega)
  have HNL := mk0 (show tNL l ≤ N from by omega)
  have HC := mk0 hC
  have HOK := mk0 hok
  have HU := mk0 hU
  have HK := mk0 hk
  have HLT := mk0 (show mb < W.heap.size from by have := hF.size; omega)
  have hba := aA_ (Below.refl W.heap.size W) (.cells #[.int .i64 kd, .int .i64 n, .slice A l.length c] 50)
  have HF := mk0 (hF.below hba)
  have HB := mk0 (LB.mk (w := w) (aU_ W (.cells #[.int .i64 kd, .int .i64 n, .slice A l.length c] 50)))
  have HKR := mk0 (KR.below (b := mb) (by have := HLT.out; omega) hba)
  clear ih hM hC hok hU hk hba hF ht
  show Calls Tryz.prog 80 #[.agg #[.int .i64 kd, .int .i64 n, .slice A l.length c], pB (mb + 2), pB (mb + 3)] W (MtQ fs w mb s1 s2 M (fun k => tC k ⟨kd, n, l⟩ = true) W)
  unfold pB
  go_enter Tryz.func80, Tryz.ntmps80
  go_upto_region 1 with (fail)
  generalize W.alloc (.cells #[.int .i64 kd, .int .i64 n, .slice A l.length c] 50) = W1 at *
  obtain ⟨p0, p1, p2⟩ := (HB.out).cells
  go_upto_if 8 with (fail)
  clear p0 p1 p2
  go_cut [] (fun wx => Aside0 (KR mb W wx) ∧ Aside0 (LB w wx W.heap.size (.int .i64 kd) (.int .i64 n) (.slice A l.length c)) ∧ ∃ M1 : List Int, Aside0 (RF w wx mb s1 s2 M1) ∧ Aside0 (DFS fs M M1) ∧ Aside0 (kd = 1 → n ∈ M1))
  case first =>
   by_cases hk1 : kd = 1
   ·subst hk1
    obtain ⟨p0, p1, p2⟩ := (HB.out).cells
    obtain ⟨_, _, q6, _⟩ := (HF.out).cells
    unfold pB at q6
    have HC1 := mk0 (HM.out n M W1 HF.out HOK.out HU.out (HK.out n (by rw [tC_iff]; exact .inl ⟨rfl, rfl⟩)))
    unfold pB at HC1
    go_wp2_with fail
    refine (HC1.out).mono ?_
    rintro E W2 ⟨rfl, hkr, M1, hF1, hD1, hn1⟩
    have HKR2 := mk0 ((HKR.out).trans hkr)
    have HB2 := mk0 (LB.mk (w := w) (hkr.blk (by have := HLT.out; omega) (HB.out).h))
    have HF2 := mk0 hF1
    have HD2 := mk0 hD1
    have HN2 := mk0 (hn1 n rfl)
    clear hkr hF1 hD1 hn1 p0 p1 p2 q6 HC1
    go_wp2
    go_meet
    exact ⟨HKR2, HB2, M1, HF2, HD2, ⟨fun _ => HN2.out⟩⟩
   ·have hk1z : (kd == 1) = false := by simpa using hk1
    have HK1 := mk0 hk1
    clear hk1
    go_wp2
    go_meet
    exact ⟨HKR, HB, M, HF, ⟨DFS.refl HOK.out⟩, ⟨fun h => absurd h HK1.out⟩⟩
  case rest =>
   clear HKR HB HF
   obtain ⟨HKR, HB, M1, HF, HD, HN1⟩ := hcut
   obtain ⟨p0, p1, p2⟩ := (HB.out).cells
   go_wp2
   clear p0 p1 p2
   go_loopg [16] l.length (fun gg v16 wi => ∃ (j : Nat) (M2 : List Int), j ≤ l.length ∧ l.length - j ≤ gg ∧ v16 = .int .i64 j ∧ Aside0 (KR mb W wi) ∧ Aside0 (RF w wi mb s1 s2 M2) ∧ Aside0 (DFS fs M M2) ∧ Aside0 (kd = 1 → n ∈ M2) ∧ Aside0 (∀ i, i < j → ∀ k : Int, tC k (rd_T50 l (i : Int)) = true → k ∈ M2))
   case atStart => exact ⟨0, M1, Nat.zero_le _, Nat.le_refl _, rfl, HKR, HF, HD, HN1, ⟨fun i hi => absurd hi (Nat.not_lt_zero _)⟩⟩
   case round =>
    clear HKR HB HF HD HN1
    obtain ⟨j, M2, hj, hgg, rfl, HKR, HF, HD, HN1, HP⟩ := hrel
    by_cases hlt : j < l.length
    ·have hltz : (j : Int) < (l.length : Int) := by omega
     have HLJ := mk0 hlt
     obtain ⟨ad, A1, c1, e, hx0, hx1, hx2, hl1, hC1⟩ := at_T50 HC.out (j : Int) (by omega) hltz
     subst e
     rw [l14_] at hx0 hx1 hx2
     replace hx0 := aP_ (HF.out).hb hx0
     replace hx1 := aP_ (HF.out).hb hx1
     replace hx2 := aP_ (HF.out).hb hx2
     have HKZ := mk0 (show wrap64 ((j : Int) + 1) = ((j + 1 : Nat) : Int) by rw [wr_id (by omega) (by have := HLEN.out; omega)]; rfl)
     have HTN := mk0 (show tN (rd_T50 l (j : Int)) ≤ N from by rw [rdT_at hlt]; have := tN_mem (l11_ hlt); have := HNL.out; omega)
     have HTK := mk0 (show ∀ k : Int, tC k (rd_T50 l (j : Int)) = true → OkR fs k from fun k hk => HK.out k (by rw [tC_iff]; right; exact ⟨_, l11_ hlt, by rwa [rdT_at hlt] at hk⟩))
     have HUP := mk0 (fun (M3 : List Int) (hs : ∀ x ∈ M2, x ∈ M3) (h : ∀ k : Int, tC k (rd_T50 l (j : Int)) = true → k ∈ M3) => upto_succ2 (P := fun i => ∀ k : Int, tC k (rd_T50 l (i : Int)) = true → k ∈ M3) (fun i hi k hk => hs k (HP.out i hi k hk)) h)
     have HC1 := mk0 hC1
     clear hC1 hl1 hlt HP
     generalize rd_T50 l (j : Int) = u at *
     have hnn : (0 : Int) ≤ (j : Int) := by omega
     go_upto_region 6 with (fail)
     have hba := aA_ (Below.refl wr.heap.size wr) (.cells #[.int .i64 u.f0, .int .i64 u.f1, .slice A1 u.f2.length c1] 50)
     have HF2 := mk0 ((HF.out).below hba)
     have HB2 := mk0 (LB.mk (w := w) (aU_ wr (.cells #[.int .i64 u.f0, .int .i64 u.f1, .slice A1 u.f2.length c1] 50)))
     have HKR2 := mk0 ((HKR.out).trans (KR.below (b := mb) (by have := (HF.out).size; omega) hba))
     clear hx0 hx1 hx2 hba HF HKR
     generalize wr.alloc (.cells #[.int .i64 u.f0, .int .i64 u.f1, .slice A1 u.f2.length c1] 50) = w5 at *
     generalize wr.heap.size = b5 at *
     obtain ⟨p0, p1, p2⟩ := (HB2.out).cells
     obtain ⟨_, _, _, q7⟩ := (HF2.out).cells
     have HCL := mk0 (IH.out u HTN.out A1 c1 M2 w5 HC1.out HF2.out (HD.out).ok (by have := HU.out; have := (HD.out).len; omega) HTK.out)
     unfold pB at q7 HCL
     go_wp2_with fail
     refine (HCL.out).mono ?_
     rintro E w6 ⟨rfl, hkr, M3, hF3, hD3, hk3⟩
     have HKR3 := mk0 ((HKR2.out).trans hkr)
     have HF3 := mk0 hF3
     have HD3 := mk0 ((HD.out).trans hD3)
     have HN3 := mk0 (fun (h : kd = 1) => hD3.sub n (HN1.out h))
     have HP3 := mk0 (HUP.out M3 hD3.sub hk3)
     clear hkr hF3 hD3 hk3 p0 p1 p2 q7 HCL HKR2 HF2 HD HN1 HUP HB2
     go_wp2
     go_roundg (l.length - (j + 1))
     case measure => have := HLJ.out; omega
     case rel => exact ⟨j + 1, M3, HLJ.out, Nat.le_refl _, by rw [HKZ.out], HKR3, HF3, HD3, HN3, HP3⟩
    ·have hltz : ¬ (j : Int) < (l.length : Int) := by omega
     have HE := mk0 (show ∀ k : Int, tC k ⟨kd, n, l⟩ = true → k ∈ M2 from fun k hk => by
      rcases tC_iff.1 hk with ⟨h1, h2⟩ | ⟨y, hy, hyk⟩
      ·have h3 : n = k := h2
       rw [← h3]
       exact HN1.out h1
      ·obtain ⟨i, hi, rfl⟩ := List.mem_iff_getElem.1 hy
       have hi2 : i < l.length := hi
       exact HP.out i (by omega) k (by rw [rdT_at hi2]; exact hyk))
     go_wp2
     go_end0
     exact ⟨rfl, HKR.out, M2, HF.out, HD.out, HE.out⟩
theorem body_room {fs : List S52} {M : List Int} {f : Int} (hn : M.Nodup) (hM : ∀ x ∈ M, OkR fs x) (hf : f ∉ M) (ho : OkR fs f) : M.length + 1 ≤ fs.length := by
 obtain ⟨j, rfl, hj, _⟩ := ho
 exact OkR.room hn hM hf (by omega) (by omega)
set_option maxHeartbeats 8000000 in
set_option maxRecDepth 100000 in
theorem meet_of {fs : List S52} {w : World} {mb : Nat} {s1 : Value} {A2 : Option Addr} {c2 : Nat} {U : Nat} (hF0 : Kd.C k52 w A2 fs.length fs) (hN : ∀ f ∈ fs, tN f.f2 ≤ 400) (hco : CallsOk fs) (hlen : fs.length ≤ 1000) (hL : ∀ U1, U = U1 + 1 → LookAt fs w mb s1 (.slice A2 fs.length c2) U1 400) : MeetAt fs w mb s1 (.slice A2 fs.length c2) U := by
 intro f M W hF hok hU ho
 have HF0 := mk0 hF0
 have HL := mk0 hL
 have HF := mk0 hF
 have HOK := mk0 hok
 have HO := mk0 ho
 have HW := mk0 (show wf64 f from by obtain ⟨j, rfl, hj, _⟩ := ho; exact wf64_of (by omega) (by omega))
 obtain ⟨_, qp, _, q7⟩ := hF.cells
 have hl := MapIs.look hF.hm keyInt Tryz.underlying121 (zero4 W) HW.out false
 unfold pB at q7 ⊢
 by_cases hm : f ∈ M
 ·rw [mget_truI_mem hm] at hl
  simp only [Bool.false_eq_true, if_false] at hl
  have HM := mk0 hm
  clear hF0 hN hco hlen hL hF hok hU ho hm q7
  go_enter Tryz.func81, Tryz.ntmps81
  go_wp2
  go_end0
  exact ⟨rfl, KR.refl _ _, M, HF.out, DFS.refl HOK.out, fun k hk => by rw [hk]; exact HM.out⟩
 ·rw [mget_truI_not hm] at hl
  simp only [Bool.false_eq_true, if_false] at hl
  have hroom := body_room hF.nodup hok hm ho
  obtain ⟨U1, rfl⟩ : ∃ U1, U = U1 + 1 := ⟨U - 1, by omega⟩
  obtain ⟨w1, hput, HM1, hg1, hbn1⟩ := mapIs_put_born hF.hm hF.hn keyInt Tryz.underlying121 HW.out true (by rw [truI_keys]; exact hm)
  rw [truI_snoc hm] at HM1
  have HKR := mk0 (show KR mb W w1 from ⟨pw_below_grown (Below.mono (Below.refl W.heap.size W) (by have := hF.size; omega)) _ (by have := hF.size; omega) hg1 (fun k hk => by cases hk; exact Nat.le_refl _), ⟨hg1.size, fun i hi hne _ => hg1.block i hi (fun e => hne (l13_ e))⟩⟩)
  have HF1 := mk0 (hF.call HKR.out HM1 hbn1)
  have HOK1 := mk0 (show ∀ x ∈ M ++ [f], OkR fs x from fun x hx => by
   rcases List.mem_append.1 hx with hx | hx
   ·exact hok x hx
   ·rw [List.mem_singleton.1 hx]; exact ho)
  have HLK := mk0 (HL.out U1 rfl)
  have HUM := mk0 (show fs.length ≤ (M ++ [f]).length + U1 from by rw [l7_, l10_]; omega)
  obtain ⟨j, rfl, hj, hr⟩ := ho
  have HBK := mk0 (show ∀ k : Int, tC k (fs[j].f2) = true → OkR fs k from fun k hk => by
   obtain ⟨h1, h2⟩ := hco j hj k hk
   exact ⟨k.toNat, by omega, by omega, Rch.step hr hj (by rwa [show ((k.toNat : Nat) : Int) = k by omega])⟩)
  have HTN := mk0 (hN _ (l11_ hj))
  have HAT := mk0 (bodyAt_at hj)
  obtain ⟨ad, As, cs, At, ct, e, hx0, hx1, hx2, hx3, hx4, hls, hCs, hlt4, hCt⟩ := at_T52 HF0.out (j : Int) (by omega) (by omega)
  subst e
  rw [rdF_at hj] at hx0 hx1 hx2 hx3 hx4 hls hCs hlt4 hCt
  rw [l14_] at hx0 hx1 hx2 hx3 hx4
  have hjz : (j : Int) < (fs.length : Int) := by omega
  have hnn : (0 : Int) ≤ (j : Int) := by omega
  have HCt := mk0 hCt
  have HX := mk0 (fun (W3 : World) (hW : Below w.heap.size w W3) => And.intro (aP_ hW hx2) (And.intro (aP_ hW hx3) (aP_ hW hx4)))
  clear hF0 hN hco hlen hL hF hok hU hm hroom HM1 hg1 hbn1 hx0 hx1 hx2 hx3 hx4 hls hCs hlt4 hCt hr HF HOK HO HL
  generalize fs[j] = fn at *
  go_enter Tryz.func81, Tryz.ntmps81
  go_upto_region 2 with (fail)
  clear qp q7 hl hput
  have hd := below_drew (Below.refl w1.heap.size w1)
  have HFD := mk0 ((HF1.out).below hd)
  have HKD := mk0 ((HKR.out).trans (KR.below (b := mb) (by have := (HF1.out).size; omega) hd))
  have HC := mk0 (HLK.out fn.f2 HTN.out At ct (M ++ [(j : Int)]) w1.drew HCt.out HFD.out HOK1.out HUM.out HBK.out)
  have HS := mk0 (fun (W3 : World) (M3 : List Int) (hF3 : RF w W3 mb s1 (.slice (some ad) fs.length c2) M3) => (show (W3.cell? ⟨mb + 3, 0, none⟩ = some (.func (.func 80) #[] #[.pointer (some ⟨mb + 2, 0, none⟩), .pointer (some ⟨mb + 3, 0, none⟩)]) ∧ W3.cell? ⟨w.heap.size, 1, none⟩ = some (.slice (some ad) fs.length c2)) ∧ W3.cell? ⟨(ad.add (j * 5)).block, (ad.add (j * 5)).off + 2, none⟩ = some (.int .i64 fn.f2.f0) ∧ W3.cell? ⟨(ad.add (j * 5)).block, (ad.add (j * 5)).off + 3, none⟩ = some (.int .i64 fn.f2.f1) ∧ W3.cell? ⟨(ad.add (j * 5)).block, (ad.add (j * 5)).off + 4, none⟩ = some (.slice At fn.f2.f2.length ct) from
   ⟨⟨hF3.cells.2.2.2, hF3.cells.1.2⟩, HX.out W3 hF3.hb⟩))
  unfold pB at HC
  unfold MtQ at HC
  go_region_held3 (fun W3 => (W3.cell? ⟨mb + 3, 0, none⟩ = some (.func (.func 80) #[] #[.pointer (some ⟨mb + 2, 0, none⟩), .pointer (some ⟨mb + 3, 0, none⟩)]) ∧ W3.cell? ⟨w.heap.size, 1, none⟩ = some (.slice (some ad) fs.length c2)) ∧ W3.cell? ⟨(ad.add (j * 5)).block, (ad.add (j * 5)).off + 2, none⟩ = some (.int .i64 fn.f2.f0) ∧ W3.cell? ⟨(ad.add (j * 5)).block, (ad.add (j * 5)).off + 3, none⟩ = some (.int .i64 fn.f2.f1) ∧ W3.cell? ⟨(ad.add (j * 5)).block, (ad.add (j * 5)).off + 4, none⟩ = some (.slice At fn.f2.f2.length ct))
   (first | exact HS.out _ _ hF3 | exact HS.out _ _ HFD.out | fail)
   (first
    | (go_at_call 80; with_reducible refine (HC.out).mono ?_; rintro E w3 ⟨rfl, hkr, M3, hF3, hD3, hk3⟩)
    | fail)
  have HQ := mk0 (show KR mb W w3 ∧ RF w w3 mb s1 (.slice (some ad) fs.length c2) M3 ∧ DFS fs M M3 ∧ (j : Int) ∈ M3 from
   ⟨(HKD.out).trans hkr, hF3, hD3.meet (by rw [HAT.out]; exact hk3), hD3.sub _ (by simp)⟩)
  clear hkr hF3 hD3 hk3 HC HS HX HFD HKD
  go_wp2
  go_end0
  exact ⟨rfl, (HQ.out).1, M3, (HQ.out).2.1, (HQ.out).2.2.1, fun k hk => by rw [hk]; exact (HQ.out).2.2.2⟩
theorem meet_all {fs : List S52} {w : World} {mb : Nat} {s1 : Value} {A2 : Option Addr} {c2 : Nat} (hF0 : Kd.C k52 w A2 fs.length fs) (hN : ∀ f ∈ fs, tN f.f2 ≤ 400) (hco : CallsOk fs) (hlen : fs.length ≤ 1000) : ∀ U, MeetAt fs w mb s1 (.slice A2 fs.length c2) U := by
 intro U
 induction U with
 | zero => exact meet_of hF0 hN hco hlen (fun U1 h => by omega)
 | succ U ih =>
  refine meet_of hF0 hN hco hlen fun U1 h => ?_
  obtain rfl : U1 = U := by omega
  exact look_of ih 400 (by omega)
theorem run_mkfunZ (fn : Fn) (first cap : Array Value) (w : World) : (Instr.makeFunc fn first cap).run Tryz.prog w = .ok (.func fn first cap) w := rfl
structure RS (W3 : World) (mb : Nat) (x y : Value) : Prop where
 hp : W3.heap[mb + 1]? = some (.cells #[.map (some mb)] 121 (0, 0))
 h6 : W3.heap[mb + 1 + 1]? = some (.cells #[x] 122 (0, 0))
 h7 : W3.heap[mb + 1 + 1 + 1]? = some (.cells #[y] 123 (0, 0))
 hm : MapIs W3 mb (Value.int .i64) Value.bool wf64 (truI [])
 hn : BornOk W3 mb
theorem RS.start (W2 : World) : RS ((((W2.alloc (.map #[] 0)).alloc (.cells #[.map (some W2.heap.size)] 121)).alloc (.cells #[.nilFunc] 122)).alloc (.cells #[.nilFunc] 123)) W2.heap.size .nilFunc .nilFunc := by
 have s1 : (W2.alloc (.map #[] 0)).heap.size = W2.heap.size + 1 := by simp
 have h1 := aU_ (W2.alloc (.map #[] 0)) (.cells #[.map (some W2.heap.size)] 121)
 rw [s1] at h1
 have s2 : ((W2.alloc (.map #[] 0)).alloc (.cells #[.map (some W2.heap.size)] 121)).heap.size = W2.heap.size + 1 + 1 := by simp
 have h2 := aU_ ((W2.alloc (.map #[] 0)).alloc (.cells #[.map (some W2.heap.size)] 121)) (.cells #[.nilFunc] 122)
 rw [s2] at h2
 have s3 : (((W2.alloc (.map #[] 0)).alloc (.cells #[.map (some W2.heap.size)] 121)).alloc (.cells #[.nilFunc] 122)).heap.size = W2.heap.size + 1 + 1 + 1 := by simp
 have h3 := aU_ (((W2.alloc (.map #[] 0)).alloc (.cells #[.map (some W2.heap.size)] 121)).alloc (.cells #[.nilFunc] 122)) (.cells #[.nilFunc] 123)
 rw [s3] at h3
 exact ⟨aD_ (aD_ h1 _) _, aD_ h2 _, h3, (((mapIs_new W2 (Value.int .i64) Value.bool wf64).below (aA_ (Below.refl _ _) _)).below (aA_ (Below.refl _ _) _)).below (aA_ (Below.refl _ _) _), (((BornOk.new W2).below (aA_ (Below.refl _ _) _)).below (aA_ (Below.refl _ _) _)).below (aA_ (Below.refl _ _) _)⟩
theorem RS.set7 {W3 : World} {mb : Nat} {x y : Value} (h : RS W3 mb x y) (u : Value) : RS (W3.setCell ⟨mb + 1 + 1 + 1, 0, none⟩ u) mb x u :=
 ⟨aT_ h.hp (by show mb + 1 ≠ mb + 1 + 1 + 1; omega) _, aT_ h.h6 (by show mb + 1 + 1 ≠ mb + 1 + 1 + 1; omega) _, blk_set h.h7 0 u, h.hm.far (by show mb ≠ mb + 1 + 1 + 1; omega) _, h.hn.kept (Below.heap_setCell W3 ⟨mb + 1 + 1 + 1, 0, none⟩ u mb (by show mb ≠ mb + 1 + 1 + 1; omega))⟩
theorem RS.set6 {W3 : World} {mb : Nat} {x y : Value} (h : RS W3 mb x y) (u : Value) : RS (W3.setCell ⟨mb + 1 + 1, 0, none⟩ u) mb u y :=
 ⟨aT_ h.hp (by show mb + 1 ≠ mb + 1 + 1; omega) _, blk_set h.h6 0 u, aT_ h.h7 (by show mb + 1 + 1 + 1 ≠ mb + 1 + 1; omega) _, h.hm.far (by show mb ≠ mb + 1 + 1; omega) _, h.hn.kept (Below.heap_setCell W3 ⟨mb + 1 + 1, 0, none⟩ u mb (by show mb ≠ mb + 1 + 1; omega))⟩
theorem key_inj : ∀ {l : List MapEntry}, (l.map (·.key)).Nodup → ∀ {x e : MapEntry}, x ∈ l → e ∈ l → x.key = e.key → x = e
 | [], _, x, e, hx, _, _ => by cases hx
 | a :: r, hn, x, e, hx, he, hk => by
  rw [List.map_cons, List.nodup_cons] at hn
  rcases List.mem_cons.1 hx with h1 | h1
  ·rcases List.mem_cons.1 he with h2 | h2
   ·rw [h1, h2]
   ·exact absurd (List.mem_map.2 ⟨e, h2, by rw [← hk, h1]⟩) hn.1
  ·rcases List.mem_cons.1 he with h2 | h2
   ·exact absurd (List.mem_map.2 ⟨x, h1, by rw [hk, h2]⟩) hn.1
   ·exact key_inj hn.2 h1 h2 hk
structure IT (ms : Array MapEntry) (seen : Array Nat) (acc : List Int) : Prop where
 nd : acc.Nodup
 to_ : ∀ x ∈ acc, ∃ e ∈ ms.toList, e.key = .int .i64 x ∧ seen.contains e.born = true
 of_ : ∀ e ∈ ms.toList, seen.contains e.born = true → ∃ x ∈ acc, e.key = .int .i64 x
theorem IT.start (ms : Array MapEntry) : IT ms #[] [] := ⟨List.nodup_nil, fun x hx => (by cases hx), fun e _ h => by simp at h⟩
theorem IT.push {ms : Array MapEntry} {seen : Array Nat} {acc : List Int} {e : MapEntry} {x : Int} (h : IT ms seen acc) (hk : (ms.toList.map (·.key)).Nodup) (hb : (ms.toList.map (·.born)).Nodup) (he : e ∈ (leftOf ms seen).toList) (hx : e.key = .int .i64 x) : IT ms (seen.push e.born) (acc ++ [x]) := by
 obtain ⟨he1, he2⟩ := mem_left he
 have hcp : ∀ y, (seen.push e.born).contains y = (seen.contains y || y == e.born) := fun y => contains_push seen e.born y
 refine ⟨List.nodup_append.2 ⟨h.nd, by simp, fun a ha b hb2 => ?_⟩, fun y hy => ?_, fun q hq hc => ?_⟩
 ·rw [List.mem_singleton.1 hb2]
  rintro rfl
  obtain ⟨q, hq1, hq2, hq3⟩ := h.to_ a ha
  rw [key_inj hk hq1 he1 (hq2.trans hx.symm)] at hq3
  rw [he2] at hq3
  cases hq3
 ·rcases List.mem_append.1 hy with hy | hy
  ·obtain ⟨q, hq1, hq2, hq3⟩ := h.to_ y hy
   exact ⟨q, hq1, hq2, by rw [hcp, hq3]; rfl⟩
  ·rw [List.mem_singleton.1 hy]
   exact ⟨e, he1, hx, by rw [hcp]; simp⟩
 ·rw [hcp, Bool.or_eq_true] at hc
  rcases hc with hc | hc
  ·obtain ⟨y, hy1, hy2⟩ := h.of_ q hq hc
   exact ⟨y, List.mem_append_left _ hy1, hy2⟩
  ·rw [born_inj hb hq he1 (by simpa using hc)]
   exact ⟨x, by simp, hx⟩
theorem IT.done {ms : Array MapEntry} {seen : Array Nat} {acc M : List Int} (h : IT ms seen acc) (hk : ms.toList.map (·.key) = M.map (Value.int .i64)) (hl : (leftOf ms seen).size = 0) : ∀ k, k ∈ acc ↔ k ∈ M := by
 intro k
 constructor
 ·intro hk1
  obtain ⟨e, he1, he2, _⟩ := h.to_ k hk1
  have : e.key ∈ M.map (Value.int .i64) := hk ▸ List.mem_map.2 ⟨e, he1, rfl⟩
  obtain ⟨y, hy, e2⟩ := List.mem_map.1 this
  rw [he2] at e2
  injection e2 with _ e3
  rwa [← e3]
 ·intro hk1
  have : Value.int .i64 k ∈ ms.toList.map (·.key) := hk ▸ List.mem_map.2 ⟨k, hk1, rfl⟩
  obtain ⟨e, he1, he2⟩ := List.mem_map.1 this
  obtain ⟨y, hy, e2⟩ := h.of_ e he1 (all_seen ms seen hl e he1)
  rw [he2] at e2
  injection e2 with _ e3
  rwa [e3]
theorem isR_acc {fs : List S52} {M acc : List Int} (h : DFS fs [] M) (h0 : (0 : Int) ∈ M) (hn : acc.Nodup) (hm : ∀ k, k ∈ acc ↔ k ∈ M) : IsR fs (acc.mergeSort fun x y => decide (x ≤ y)) := by
 have hp := List.mergeSort_perm acc (fun x y => decide (x ≤ y))
 have hs : (acc.mergeSort fun x y => decide (x ≤ y)).Pairwise fun a b => decide (a ≤ b) = true :=
  List.pairwise_mergeSort (le := fun x y => decide (x ≤ y)) (fun a b c h1 h2 => by simp only [l20_] at h1 h2 ⊢; omega) (fun a b => by simp only [Bool.or_eq_true, l20_]; omega) acc
 have hd : (acc.mergeSort fun x y => decide (x ≤ y)).Nodup := hp.nodup_iff.2 hn
 refine ⟨(hs.and hd).imp fun {a b} h => ?_, fun k => ?_⟩
 ·have h1 := l0_ h.1
  have h2 := h.2
  omega
 ·rw [hp.mem_iff, hm]
  refine ⟨h.ok k, ?_⟩
  rintro ⟨j, rfl, _, hr⟩
  exact h.all h0 j hr
theorem sortI_calls (g c : Nat) (xs : List Int) (w : World) (hC : Kd.C (Kd.int .i64) w (some ⟨g, 0, none⟩) xs.length xs) (hT : ∃ cells, w.heap[g]? = some (.cells cells 3 (0, 0))) (hl : xs.length ≤ 1000) :
  Calls Tryz.prog 82 #[.slice (some ⟨g, 0, none⟩) xs.length c] w fun e w' => e = .returned (.tuple #[]) ∧ w.grownBy w' (some g) ∧ Kd.C (Kd.int .i64) w' (some ⟨g, 0, none⟩) xs.length (xs.mergeSort fun x y => decide (x ≤ y)) := by
 obtain ⟨cells, hT⟩ := hT
 have hH : Go.Sort.Holds (Value.int .i64) w g 0 xs.toArray := by
  intro j hj
  have hj' : j < xs.length := by simpa using hj
  have h1 := Kd.foot_int hC (j : Int) (by omega) (by omega)
  rw [l14_] at h1
  have h2 : Addr.add ⟨g, 0, none⟩ j = ⟨g, 0 + j, none⟩ := Addr.add_mid g 0 j
  rw [h2] at h1
  refine ⟨h1.trans ?_, by simp [World.frozen?, hT]⟩
  simp [rd, hj']
 refine (Tryz.slices_Sort_int g 0 c xs w hH (blk_lt hT) (by omega)).mono ?_
 rintro E w' ⟨rfl, n, os, rfl⟩
 refine ⟨rfl, grownBy_sortedI _, ?_⟩
 have hlen : (xs.mergeSort fun x y => decide (x ≤ y)).length = xs.length := List.length_mergeSort xs
 have hsz : xs.length ≤ cells.size := by
  by_cases h : xs.length ≤ cells.size
  ·exact h
  ·exfalso
   have h1 := (hH cells.size (by simpa using (show cells.size < xs.length by omega))).1
   rw [Nat.zero_add, aC_ hT] at h1
   simp at h1
 have hG := heap_sortedI (n := n) (os := os) (xs.mergeSort fun x y => decide (x ≤ y)).toArray hT
 have hTk := take_putCellsI cells (xs.mergeSort fun x y => decide (x ≤ y)) (by rw [hlen]; exact hsz)
 refine ⟨hlen, hC.2.1, fun h0 => ⟨⟨g, 0, none⟩, rfl, fun j p hj => ⟨[.int .i64 p], rfl, rfl, fun i u hu => ?_⟩⟩⟩
 have hj' : j < (xs.mergeSort fun x y => decide (x ≤ y)).length := (List.getElem?_eq_some_iff.1 hj).1
 cases i with
 | succ i => simp at hu
 | zero =>
  have hu' : Value.int .i64 p = u := by simpa using hu
  rw [← hu']
  have h2 : Addr.add ⟨g, 0, none⟩ (j * (Kd.int .i64).sz + 0) = ⟨g, 0 + j, none⟩ := by
   rw [show j * (Kd.int .i64).sz + 0 = j from by show j * 1 + 0 = j; omega]
   exact Addr.add_mid g 0 j
  rw [h2, Nat.zero_add, aC_ hG]
  have h4 := congrArg (fun l => l[j]?) hTk
  simp only [List.getElem?_take_of_lt hj', Array.getElem?_toList, List.getElem?_map, hj, Option.map_some] at h4
  exact h4
theorem R_formZ {α : Type} {d : Kd α} {e base n c : Nat} {ok : Nat → Prop} {w : World} {ad : Addr} {xs : List α} (h : d.R e w base ok (.slice (some ad) n c) xs) : ∃ g, ad = ⟨g, 0, none⟩ := by
 obtain ⟨_, inner, ho, _⟩ := h
 rcases ho.2 with ⟨hv, _⟩ | ⟨g, cap, cur, hv, _⟩
 ·cases hv
 ·injection hv with ha _ _
  injection ha with ha
  exact ⟨g, ha⟩
structure RI (w wi : World) (mb r : Nat) (ms : Array MapEntry) (ck : Nat) (seen : Array Nat) (acc : List Int) (A : Option Addr) (c : Nat) : Prop where
 hb : Below w.heap.size w wi
 hmap : wi.heap[mb]? = some (.map ms ck)
 hit : wi.heap[r]? = some (.mapIter (some mb) ck seen ck)
 row : Kd.R (Kd.int .i64) 3 wi w.heap.size (fun k => r < k) (.slice A acc.length c) acc
 lt : w.heap.size < mb ∧ mb < r
section
variable {w wi w1 : World} {mb r ck : Nat} {ms : Array MapEntry} {seen : Array Nat} {acc : List Int} {A : Option Addr} {c : Nat}
theorem blk_sz {w : World} {k : Nat} {o : Obj} (h : w.heap[k]? = some o) : k < w.heap.size := (Array.getElem?_eq_some_iff.1 h).1
theorem grown_setBlock (w : World) (r : Nat) (o : Obj) : w.grownBy (Go.ChangeMaps.setBlock w r o) (some r) := ⟨rfl, rfl, rfl, by simp [Go.ChangeMaps.setBlock], fun i hi hne => by
  have hne' : r ≠ i := fun e => hne (by rw [e])
  simp [Go.ChangeMaps.setBlock, hne']⟩
theorem RI.next (h : RI w wi mb r ms ck seen acc A c) (hal : w1 = wi ∨ w1 = wi.drew) (b : Nat) : RI w (Go.ChangeMaps.setBlock w1 r (.mapIter (some mb) ck (seen.push b) ck)) mb r ms ck (seen.push b) acc A c := by
 have h1 : RI w w1 mb r ms ck seen acc A c := by
  rcases hal with rfl | rfl
  ·exact h
  ·exact ⟨below_drew h.hb, h.hmap, h.hit, Kd.R_below h.row (below_drew (Below.refl _ _)), h.lt⟩
 have hg := grown_setBlock w1 r (.mapIter (some mb) ck (seen.push b) ck)
 have hl := h1.lt
 refine ⟨pw_below_grown h1.hb _ h1.hb.size hg (fun k hk => by cases hk; omega), (hg.block mb (blk_sz h1.hmap) (fun e => by have := l13_ e; omega)).trans h1.hmap, ?_, ?_, hl⟩
 ·have := blk_sz h1.hit
  simp [Go.ChangeMaps.setBlock, this]
 ·exact Kd.R_mono (Kd.R_step (Kd.R_bound h1.row) (fun k hk hlt => hg.block k hlt (fun e => by have := l13_ e; have := hk.1; omega))) (fun k hk => hk.1)
theorem RI.push {x : Int} {A2 : Option Addr} {c2 : Nat} (h : RI w wi mb r ms ck seen acc A c) (ho : Kd.R (Kd.int .i64) 3 w1 w.heap.size (fun k => r < k) (.slice A2 (acc ++ [x]).length c2) (acc ++ [x])) (hb : Below w.heap.size w w1) (hg : wi.grownBy w1 (Value.slice A acc.length c).ownBlock) : RI w w1 mb r ms ck seen (acc ++ [x]) A2 c2 := by
 have hr : ∀ k, (Value.slice A acc.length c).ownBlock = some k → r < k := h.row.1
 have hl := h.lt
 exact ⟨hb, (hg.block mb (blk_sz h.hmap) (fun e => by have := hr _ e.symm; omega)).trans h.hmap, (hg.block r (blk_sz h.hit) (fun e => by have := hr _ e.symm; omega)).trans h.hit, ho, hl⟩
end
def ReQ (sy : List S71) (fs : List S52) (w : World) (E : Ending) (w' : World) : Prop :=
 Below w.heap.size w w' ∧ (schB sy fs = false ∧ E = .returned (.tuple #[.slice none 0 0, .int .i64 7]) ∨ schB sy fs = true ∧ ∃ (l : List Int) (A : Option Addr) (c : Nat), IsR fs l ∧ E = .returned (.tuple #[.slice A l.length c, .int .i64 0]) ∧ l.length ≤ c ∧ Kd.C (Kd.int .i64) w' A l.length l)
set_option maxHeartbeats 8000000 in
set_option maxRecDepth 100000 in
theorem sreach_calls (sy : List S71) (fs : List S52) (A1 A2 : Option Addr) (c1 c2 : Nat) (w : World) (hS : Kd.C k71 w A1 sy.length sy) (hF : Kd.C k52 w A2 fs.length fs) :
  Calls Tryz.prog 31 #[.agg #[.slice A1 sy.length c1, .slice A2 fs.length c2]] w (ReQ sy fs w) := by
 have hmm := @run_makeMap Tryz.prog
 have hmf := run_mkfunZ
 have HF := mk0 hF
 have H1 := mk0 fun W (hW : Below w.heap.size w W) => scheme_calls sy fs A1 A2 c1 c2 W (Kd.C_below hS hW) (Kd.C_below hF hW)
 have HB := mk0 (CB.mk (aA_ (Below.refl w.heap.size w) (.cells #[.slice A1 sy.length c1, .slice A2 fs.length c2] 25)) (aU_ w (.cells #[.slice A1 sy.length c1, .slice A2 fs.length c2] 25)))
 clear hS hF
 go_enter Tryz.func31, Tryz.ntmps31
 go_upto_region 1 with (fail)
 generalize w.alloc (.cells #[.slice A1 sy.length c1, .slice A2 fs.length c2] 25) = W1 at *
 obtain ⟨k0, k1⟩ := (HB.out).cells
 cases qv : schB sy fs with
 | false =>
  have HQ := mk0 qv
  rw [schV_bad qv] at H1
  clear qv
  go_wp2_with fail
  refine (H1.out _ (HB.out).hb).mono ?_
  rintro E W2 ⟨rfl, hb⟩
  have HB2 := mk0 ((HB.out).below hb)
  clear hb HB k0 k1
  go_wp2
  go_ret2
  exact ⟨(HB2.out).hb, .inl ⟨HQ.out, rfl⟩⟩
 | true =>
 have HQ := mk0 qv
 rw [schV_good qv] at H1
 clear qv
 go_wp2_with fail
 refine (H1.out _ (HB.out).hb).mono ?_
 rintro E W2 ⟨rfl, hb⟩
 have HB2 := mk0 ((HB.out).below hb)
 clear hb HB k0 k1
 go_upto_region 7 with (fail)
 have HN := mk0 (show fs.length ≤ 64 ∧ 1 ≤ fs.length from ⟨(schB_seven HQ.out).2.2.1, (schB_seven HQ.out).2.1⟩)
 have HTN := mk0 (show ∀ f ∈ fs, tN f.f2 ≤ 400 from fun f hf => (bodyOk_parts ((schB_seven HQ.out).2.2.2.2.2.2 f hf)).1)
 have HLT := mk0 (show w.heap.size < W2.heap.size from blk_lt (HB2.out).h0)
 have HS := mk0 (RS.start W2)
 have HBB := mk0 (show Below w.heap.size w ((((W2.alloc (.map #[] 0)).alloc (.cells #[.map (some W2.heap.size)] 121)).alloc (.cells #[.nilFunc] 122)).alloc (.cells #[.nilFunc] 123)) from aA_ (aA_ (aA_ (aA_ (HB2.out).hb _) _) _) _)
 have HS0 := mk0 (aD_ (aD_ (aD_ (aD_ (HB2.out).h0 (.map #[] 0)) (.cells #[.map (some W2.heap.size)] 121)) (.cells #[.nilFunc] 122)) (.cells #[.nilFunc] 123))
 clear HB2 H1
 generalize ((((W2.alloc (.map #[] 0)).alloc (.cells #[.map (some W2.heap.size)] 121)).alloc (.cells #[.nilFunc] 122)).alloc (.cells #[.nilFunc] 123)) = W3 at *
 generalize W2.heap.size = mb at *
 have a7 : W3.cell? ⟨mb + 1 + 1 + 1, 0, none⟩ = some .nilFunc := (aC_ (HS.out).h7 0).trans rfl
 have f7 : W3.frozen? ⟨mb + 1 + 1 + 1, 0, none⟩ = false := aJ_ (HS.out).h7 0
 go_upto_region 8 with (fail)
 have HS2 := mk0 ((HS.out).set7 (.func (.func 80) #[] #[.pointer (some ⟨mb + 1 + 1, 0, none⟩), .pointer (some ⟨mb + 1 + 1 + 1, 0, none⟩)]))
 have HBB2 := mk0 ((HBB.out).setCell (p := ⟨mb + 1 + 1 + 1, 0, none⟩) (by have := HLT.out; show w.heap.size ≤ mb + 1 + 1 + 1; omega) (.func (.func 80) #[] #[.pointer (some ⟨mb + 1 + 1, 0, none⟩), .pointer (some ⟨mb + 1 + 1 + 1, 0, none⟩)]))
 have HS02 := mk0 (aT_ HS0.out (p := ⟨mb + 1 + 1 + 1, 0, none⟩) (by have := HLT.out; show w.heap.size ≠ mb + 1 + 1 + 1; omega) (.func (.func 80) #[] #[.pointer (some ⟨mb + 1 + 1, 0, none⟩), .pointer (some ⟨mb + 1 + 1 + 1, 0, none⟩)]))
 clear a7 f7 HS HBB HS0
 generalize (W3.setCell ⟨mb + 1 + 1 + 1, 0, none⟩ (.func (.func 80) #[] #[.pointer (some ⟨mb + 1 + 1, 0, none⟩), .pointer (some ⟨mb + 1 + 1 + 1, 0, none⟩)])) = W4 at *
 have a6 : W4.cell? ⟨mb + 1 + 1, 0, none⟩ = some .nilFunc := (aC_ (HS2.out).h6 0).trans rfl
 have f6 : W4.frozen? ⟨mb + 1 + 1, 0, none⟩ = false := aJ_ (HS2.out).h6 0
 go_upto_region 9 with (fail)
 have HS3 := mk0 ((HS2.out).set6 (.func (.func 81) #[] #[.pointer (some ⟨mb + 1, 0, none⟩), .pointer (some ⟨mb + 1 + 1 + 1, 0, none⟩), .pointer (some ⟨w.heap.size, 0, none⟩)]))
 have HBB3 := mk0 ((HBB2.out).setCell (p := ⟨mb + 1 + 1, 0, none⟩) (by have := HLT.out; show w.heap.size ≤ mb + 1 + 1; omega) (.func (.func 81) #[] #[.pointer (some ⟨mb + 1, 0, none⟩), .pointer (some ⟨mb + 1 + 1 + 1, 0, none⟩), .pointer (some ⟨w.heap.size, 0, none⟩)]))
 have HS03 := mk0 (aT_ HS02.out (p := ⟨mb + 1 + 1, 0, none⟩) (by have := HLT.out; show w.heap.size ≠ mb + 1 + 1; omega) (.func (.func 81) #[] #[.pointer (some ⟨mb + 1, 0, none⟩), .pointer (some ⟨mb + 1 + 1 + 1, 0, none⟩), .pointer (some ⟨w.heap.size, 0, none⟩)]))
 clear a6 f6 HS2 HBB2 HS02
 generalize (W4.setCell ⟨mb + 1 + 1, 0, none⟩ (.func (.func 81) #[] #[.pointer (some ⟨mb + 1, 0, none⟩), .pointer (some ⟨mb + 1 + 1 + 1, 0, none⟩), .pointer (some ⟨w.heap.size, 0, none⟩)])) = W5 at *
 have HRF := mk0 (show RF w W5 mb (.slice A1 sy.length c1) (.slice A2 fs.length c2) [] from ⟨HBB3.out, HS03.out, (HS3.out).hp, (HS3.out).h6, (HS3.out).h7, (HS3.out).hm, (HS3.out).hn, HLT.out⟩)
 have a6 : W5.cell? ⟨mb + 1 + 1, 0, none⟩ = some (.func (.func 81) #[] #[.pointer (some ⟨mb + 1, 0, none⟩), .pointer (some ⟨mb + 3, 0, none⟩), .pointer (some ⟨w.heap.size, 0, none⟩)]) := (aC_ (HS3.out).h6 0).trans rfl
 have HC := mk0 (meet_all (mb := mb) (s1 := .slice A1 sy.length c1) (c2 := c2) HF.out HTN.out (schB_calls HQ.out) (by have := HN.out; omega) fs.length 0 [] W5 HRF.out (fun x hx => by cases hx) (by simp) ⟨0, rfl, by have := HN.out; omega, Rch.start⟩)
 unfold pB MtQ at HC
 clear HS3 HBB3 HS03
 go_wp2_with fail
 refine (HC.out).mono ?_
 rintro E W6 ⟨rfl, hkr, M, hF6, hD6, h06⟩
 have HRF6 := mk0 hF6
 have HD6 := mk0 (And.intro hD6 (h06 0 rfl))
 obtain ⟨ms, ck, hbm, hbn, hbc⟩ := hF6.hn
 have HKM := mk0 (show ms.toList.map (·.key) = M.map (Value.int .i64) from by
  obtain ⟨⟨ms2, ck2, h2, h3⟩, _⟩ := hF6.hm
  rw [hbm] at h2
  cases h2
  have := congrArg (List.map Prod.fst) h3
  rw [List.map_map] at this
  simpa [entsOf, truI, Function.comp_def] using this)
 have HBN := mk0 (And.intro hbn hbc)
 have hrg := run_range_map (P := Tryz.prog) W6 121 3 4 mb ms ck Tryz.underlying121 hbm
 have a5 : W6.cell? ⟨mb + 1, 0, none⟩ = some (.map (some mb)) := (aC_ hF6.hp 0).trans rfl
 have HBM := mk0 hbm
 clear hkr hF6 hD6 h06 hbn hbc a6 HC HRF
 go_upto_block 0 with (fail)
 have HM64 := mk0 (show ms.size ≤ 64 from by
  have h1 := congrArg List.length HKM.out
  rw [List.length_map, List.length_map] at h1
  have h2 := nodup_bound 64 M (HRF6.out).nodup (fun x hx => by obtain ⟨j, rfl, hj, _⟩ := (HD6.out).1.ok x hx; have := HN.out; omega)
  have h3 : ms.toList.length = ms.size := Array.length_toList
  omega)
 have HRI := mk0 (show RI w (W6.alloc (.mapIter (some mb) ck #[] ck)) mb W6.heap.size ms ck #[] [] none 0 from
  ⟨aA_ (HRF6.out).hb _, aD_ HBM.out _, aU_ W6 _, Kd.R_nil _ _ _ _ _, HLT.out, blk_sz HBM.out⟩)
 clear hrg a5 hbm hmm hmf
 generalize (W6.alloc (.mapIter (some mb) ck #[] ck)) = W7 at *
 generalize W6.heap.size = r at *
 have hlf : (leftOf ms #[]).size ≤ ms.size := by unfold leftOf; exact Array.size_filter_le
 have HLF := mk0 (show ([] : List Int).length + (leftOf ms #[]).size ≤ 64 from by have := HM64.out; rw [List.length_nil]; omega)
 clear hlf
 go_wp2
 go_loopg [8] (leftOf ms #[]).size (fun gg v8 wi => ∃ (seen : Array Nat) (acc : List Int) (A : Option Addr) (c : Nat), (leftOf ms seen).size ≤ gg ∧ v8 = .slice A acc.length c ∧ Aside0 (IT ms seen acc) ∧ Aside0 (RI w wi mb r ms ck seen acc A c) ∧ Aside0 (acc.length + (leftOf ms seen).size ≤ 64))
 case atStart => exact ⟨#[], [], none, 0, Nat.le_refl _, rfl, ⟨IT.start ms⟩, HRI, HLF⟩
 case round =>
  clear HRI HLF
  obtain ⟨seen, acc, A, c, hgg, rfl, HT, HI, HL⟩ := hrel
  rcases run_next_at (P := Tryz.prog) wr 0 r mb ck ck seen ms ck (HI.out).hit (HI.out).hmap (HBN.out).2 (Nat.le_refl _) with ⟨hl0, hnx⟩ | ⟨e, he, w1, hal, hnx⟩
  ·have HL0 := mk0 ((HT.out).done HKM.out hl0)
   have hne : 0 < acc.length := List.length_pos_of_mem (((HL0.out) 0).2 (HD6.out).2)
   have hrd := Kd.R_reads' (HI.out).row
   obtain ⟨ad, eA, _⟩ := hrd.2.2.2.2 hne
   subst eA
   obtain ⟨g, rfl⟩ := R_formZ (HI.out).row
   have HG := mk0 ((HI.out).row.1 g rfl)
   have HC := mk0 (sortI_calls g c acc wr hrd.2.2 (Kd.R_typed (HI.out).row g rfl) (by have := HL.out; omega))
   have HLC := mk0 hrd.2.1
   have HR := mk0 (isR_acc (HD6.out).1 (HD6.out).2 (HT.out).nd HL0.out)
   clear hl0 hgg hrd hne
   go_upto_region 15 with (fail)
   clear hnx
   go_wp2_with fail
   refine (HC.out).mono ?_
   rintro E w8 ⟨rfl, hg8, hC8⟩
   have HB8 := mk0 (pw_below_grown (HI.out).hb _ (HI.out).hb.size hg8 (fun k hk => by cases hk; have := HG.out; have := (HI.out).lt; omega))
   have HC8 := mk0 hC8
   have HLM := mk0 (List.length_mergeSort (le := fun x y => decide (x ≤ y)) acc)
   clear hg8 hC8 HC
   go_wp2
   go_ret2
   refine ⟨HB8.out, .inr ⟨HQ.out, _, some ⟨g, 0, none⟩, c, HR.out, ?_, ?_, ?_⟩⟩
   ·rw [HLM.out]; rfl
   ·rw [HLM.out]; exact HLC.out
   ·rw [HLM.out]; exact HC8.out
  ·have he1 := (mem_left he).1
   obtain ⟨x, hxM, hx⟩ : ∃ x ∈ M, Value.int .i64 x = e.key := List.mem_map.1 (HKM.out ▸ List.mem_map.2 ⟨e, he1, rfl⟩)
   have hkn : (ms.toList.map (·.key)).Nodup := by
    rw [HKM.out]
    exact List.pairwise_map.2 ((HRF6.out).nodup.imp (fun {a b} hne h => hne (by injection h)))
   have HT2 := mk0 ((HT.out).push hkn (HBN.out).1 he hx.symm)
   have HI2 := mk0 ((HI.out).next hal e.born)
   have hen := run_entry_at (P := Tryz.prog) (Go.ChangeMaps.setBlock w1 r (.mapIter (some mb) ck (seen.push e.born) ck)) r mb ck seen ms ck e (HI2.out).hit (HI2.out).hmap he1 (HBN.out).1
   have hsh := left_shrinks ms seen e he
   have HSH := mk0 hsh
   rw [← hx] at hnx hen
   have HSZ := mk0 (show r < (Go.ChangeMaps.setBlock w1 r (.mapIter (some mb) ck (seen.push e.born) ck)).heap.size from blk_sz (HI2.out).hit)
   clear he hal hx hxM hkn he1
   go_upto_if 23 with (fail)
   clear hnx
   generalize Go.ChangeMaps.setBlock w1 r (.mapIter (some mb) ck (seen.push e.born) ck) = w2 at *
   generalize seen.push e.born = seen2 at *
   have HLB := mk0 (show (acc.length + 1) * 8 ≤ 140737488355328 by have := HL.out; omega)
   go_wp2_with ((with_reducible refine gate_builtin (b := .append) (xs := #[.tmp 26, .tmp 28]) rfl ?_); at_builtin; refine Kd.R_append (Kd.int .i64) (w0 := w) w.heap.size rfl (.tmp 26) (.tmp 28) 39 3 (.int .i64 0) 8 rfl Tryz.underlying39 info3 rfl (by decide) (by decide) (.slice A acc.length c) acc x [.int .i64 x] (fun k => r < k) (fun _ => False) rfl rfl rfl (fun _ hk => hk.elim) (fun k hk => l12_ HSZ.out hk) (HI2.out).row (HI2.out).hb (HI2.out).hb.size HLB.out ?_; intro v5 w6 ho5 hb5 hg5 hat5; (obtain ⟨A9, c9, rfl⟩ := Kd.R_slice ho5); have HI3 := mk0 ((HI2.out).push ho5 hb5 hg5); clear ho5 hb5 hg5 hat5)
   go_roundg (leftOf ms seen2).size
   case measure => have := HSH.out; omega
   case rel => exact ⟨seen2, acc ++ [x], A9, c9, Nat.le_refl _, by first | rfl | rw [l7_, l10_], HT2, HI3, ⟨by have h1 := HSH.out; have h2 := HL.out; rw [l7_, l10_]; omega⟩⟩
theorem eta47 (x : S47) : (⟨x.f0⟩ : S47) = x := by cases x; rfl
theorem eta50y (x : S50) : (⟨x.f0, x.f1, x.f2⟩ : S50) = x := by cases x; rfl
theorem eta52 (x : S52) : (⟨x.f0, x.f1, x.f2⟩ : S52) = x := by cases x; rfl
theorem scopy_ev (N : Nat) : ∀ t : S47, sN t ≤ N → N ≤ 1000000 → Ev (fun k => Q.virgationref01_Copy.f k t.f0) t.f0 := by
 induction N with
 | zero => intro t h; have := sN_pos t; omega
 | succ N ih =>
  intro t h hN
  obtain ⟨l⟩ := t
  rw [sN] at h
  have hll := sLen_le (l := l)
  have loop : ∀ d j : Nat, l.length - j = d → j ≤ l.length → Ev (fun k => Q.virgationref01_Copy.l0 k l (l.length : Int) (j : Int) (l.take j)) l := by
   intro d
   induction d with
   | zero =>
    intro j hd hj
    refine ev_end fun k => ?_
    simp only [Q.virgationref01_Copy.l0]
    rw [if_neg (by omega), show l.take j = l from List.take_of_length_le (by omega)]
   | succ d ihd =>
    intro j hd hj
    have hlt : j < l.length := by omega
    have e1 := ih l[j] (by have := sN_mem (l11_ hlt); omega) (by omega)
    have e2 := ihd (j + 1) (by omega) (by omega)
    rw [show ((j + 1 : Nat) : Int) = wrap64 ((j : Int) + 1) from (wrap_succ (i := (j : Int)) (by omega) (by omega)).symm, takeS hlt] at e2
    have hlen : (l.take j).length < 5864062014805 := by rw [List.length_take]; omega
    refine ev_next (Ev.bind (f := fun k (t : List S47) => if (l.take j).length < 5864062014805 then Q.virgationref01_Copy.l0 k l (l.length : Int) (wrap64 ((j : Int) + 1)) (l.take j ++ [(⟨t⟩ : S47)]) else none) e1 ?_) fun k => ?_
    ·simp only [if_pos hlen, eta47]
     exact e2
    ·simp only [Q.virgationref01_Copy.l0]
     rw [if_pos (by omega), if_pos (by omega), if_pos (by omega), rdS_at hlt]
  exact ev_next (loop l.length 0 (by omega) (by omega)) fun k => by simp only [Q.virgationref01_Copy.f]; rfl
theorem tcopy_ev (N : Nat) : ∀ t : S50, tN t ≤ N → N ≤ 1000000 → Ev (fun k => Q.virgationref02_Copy.f k t.f0 t.f1 t.f2) (t.f0, t.f1, t.f2) := by
 induction N with
 | zero => intro t h; have := tN_pos t; omega
 | succ N ih =>
  intro t h hN
  obtain ⟨a, m, l⟩ := t
  rw [tN] at h
  have hll := tLen_le (l := l)
  have loop : ∀ d j : Nat, l.length - j = d → j ≤ l.length → Ev (fun k => Q.virgationref02_Copy.l0 k l (l.length : Int) (j : Int) a m (l.take j)) (a, m, l) := by
   intro d
   induction d with
   | zero =>
    intro j hd hj
    refine ev_end fun k => ?_
    simp only [Q.virgationref02_Copy.l0]
    rw [if_neg (by omega), show l.take j = l from List.take_of_length_le (by omega)]
   | succ d ihd =>
    intro j hd hj
    have hlt : j < l.length := by omega
    have e1 := ih l[j] (by have := tN_mem (l11_ hlt); omega) (by omega)
    have e2 := ihd (j + 1) (by omega) (by omega)
    rw [show ((j + 1 : Nat) : Int) = wrap64 ((j : Int) + 1) from (wrap_succ (i := (j : Int)) (by omega) (by omega)).symm, takeS hlt] at e2
    have hlen : (l.take j).length < 3518437208883 := by rw [List.length_take]; omega
    refine ev_next (Ev.bind (f := fun k (bt : Int × Int × List S50) => if (l.take j).length < 3518437208883 then Q.virgationref02_Copy.l0 k l (l.length : Int) (wrap64 ((j : Int) + 1)) a m (l.take j ++ [(⟨bt.1, bt.2.1, bt.2.2⟩ : S50)]) else none) e1 ?_) fun k => ?_
    ·simp only [if_pos hlen, eta50y]
     exact e2
    ·simp only [Q.virgationref02_Copy.l0]
     rw [if_pos (by omega), if_pos (by omega), if_pos (by omega), rdT_at hlt]
  exact ev_next (loop l.length 0 (by omega) (by omega)) fun k => by simp only [Q.virgationref02_Copy.f]; rfl
theorem copyS_ev (sy : List S71) (fs : List S52) (hl1 : sy.length ≤ 1000) (hl2 : fs.length ≤ 1000) (hN : ∀ f ∈ fs, sN f.f1 ≤ 1000000 ∧ tN f.f2 ≤ 1000000) : Ev (fun k => Q.virgationref03_Copy.f k sy fs) (sy, fs) := by
 have loop : ∀ d j : Nat, fs.length - j = d → j ≤ fs.length → Ev (fun k => Q.virgationref03_Copy.l0 k fs (fs.length : Int) (j : Int) sy (fs.take j)) (sy, fs) := by
  intro d
  induction d with
  | zero =>
   intro j hd hj
   refine ev_end fun k => ?_
   simp only [Q.virgationref03_Copy.l0]
   rw [if_neg (by omega), show fs.take j = fs from List.take_of_length_le (by omega)]
  | succ d ihd =>
   intro j hd hj
   have hlt : j < fs.length := by omega
   obtain ⟨n1, n2⟩ := hN _ (l11_ hlt)
   have e1 := scopy_ev 1000000 fs[j].f1 n1 (by omega)
   have e3 := tcopy_ev 1000000 fs[j].f2 n2 (by omega)
   have e2 := ihd (j + 1) (by omega) (by omega)
   rw [show ((j + 1 : Nat) : Int) = wrap64 ((j : Int) + 1) from (wrap_succ (i := (j : Int)) (by omega) (by omega)).symm, takeS hlt] at e2
   have hlen : (fs.take j).length < 1759218604441 := by rw [List.length_take]; omega
   refine ev_next (Ev.bind (f := fun k (t : List S47) => (Q.virgationref02_Copy.f k fs[j].f2.f0 fs[j].f2.f1 fs[j].f2.f2).bind fun (bt : Int × Int × List S50) => if (fs.take j).length < 1759218604441 then Q.virgationref03_Copy.l0 k fs (fs.length : Int) (wrap64 ((j : Int) + 1)) sy (fs.take j ++ [(⟨fs[j].f0, (⟨t⟩ : S47), (⟨bt.1, bt.2.1, bt.2.2⟩ : S50)⟩ : S52)]) else none) e1 ?_) fun k => ?_
   ·refine Ev.bind (f := fun k (bt : Int × Int × List S50) => if (fs.take j).length < 1759218604441 then Q.virgationref03_Copy.l0 k fs (fs.length : Int) (wrap64 ((j : Int) + 1)) sy (fs.take j ++ [(⟨fs[j].f0, (⟨fs[j].f1.f0⟩ : S47), (⟨bt.1, bt.2.1, bt.2.2⟩ : S50)⟩ : S52)]) else none) e3 ?_
    simp only [if_pos hlen, eta47, eta50y, eta52]
    exact e2
   ·simp only [Q.virgationref03_Copy.l0]
    rw [if_pos (by omega), if_pos (by omega), if_pos (by omega), rdF_at hlt]
 have e := loop fs.length 0 (by omega) (by omega)
 refine Ev.congr (fun k => ?_) e
 simp only [Q.virgationref03_Copy.f]
 rw [if_pos (show ([] : List S71).length + sy.length < 5864062014805 by rw [List.length_nil]; omega)]
 rfl
def RK (w W : World) (A : Option Addr) (n : Nat) : Prop := ∀ i, i < n → ∃ (g : Nat) (cs : Array Value), A = some ⟨g, 0, none⟩ ∧ w.heap.size ≤ g ∧ W.heap[g]? = some (.cells cs 3 (0, 0)) ∧ ∀ k, k < n → ∃ v : Int, cs[k]? = some (.int .i64 v)
theorem RK.of {w W : World} {A : Option Addr} {c : Nat} {xs : List Int} (h : Kd.R (Kd.int .i64) 3 W w.heap.size (fun k => w.heap.size ≤ k) (.slice A xs.length c) xs) : RK w W A xs.length := by
 intro i hi
 obtain ⟨_, _, hC⟩ := Kd.R_reads' h
 obtain ⟨ad, rfl, _⟩ := hC.2.2 (by omega)
 obtain ⟨g, rfl⟩ := R_formZ h
 obtain ⟨cs, hcs⟩ := Kd.R_typed h g rfl
 refine ⟨g, cs, rfl, h.1 g rfl, hcs, fun k hk => ?_⟩
 have h1 := Kd.foot_int hC (k : Int) (by omega) (by omega)
 rw [l14_, show Addr.add ⟨g, 0, none⟩ k = ⟨g, 0 + k, none⟩ from Addr.add_mid g 0 k, Nat.zero_add, aC_ hcs] at h1
 exact ⟨_, h1⟩
theorem RK.set {w W : World} {g n : Nat} {cs : Array Value} {j : Nat} {v : Int} (hw : w.heap.size ≤ g) (h : W.heap[g]? = some (.cells cs 3 (0, 0))) (hc : ∀ k, k < n → ∃ v : Int, cs[k]? = some (.int .i64 v)) : RK w (W.setCell ⟨g, j, none⟩ (.int .i64 v)) (some ⟨g, 0, none⟩) n := by
 intro i hi
 refine ⟨g, _, rfl, hw, blk_set h j (.int .i64 v), fun k hk => ?_⟩
 obtain ⟨u, hu⟩ := hc k hk
 by_cases e : j = k
 ·subst e
  have hlt : j < cs.size := (Array.getElem?_eq_some_iff.1 hu).1
  exact ⟨v, by simp [hlt]⟩
 ·exact ⟨u, by rw [Array.getElem?_setIfInBounds_ne e]; exact hu⟩
set_option maxHeartbeats 16000000 in
set_option maxRecDepth 100000 in
theorem schemeOwn_calls (sy : List S71) (fs : List S52) (A1 A2 : Option Addr) (c1 c2 : Nat) (w : World) (hS : Kd.C k71 w A1 sy.length sy) (hF : Kd.C k52 w A2 fs.length fs) (hc1 : sy.length ≤ c1) (hc2 : fs.length ≤ c2) (hm : MX w) :
  Calls Tryz.prog 13 #[.agg #[.slice A1 sy.length c1, .slice A2 fs.length c2]] w fun E w' => E = .returned (.bool true) ∧ Below w.heap.size w w' := by
 have HS := mk0 hS
 have HF := mk0 hF
 have H1 := mk0 fun W (hW : Below w.heap.size w W) => risch_calls sy fs A1 A2 c1 c2 W (Kd.C_below hS hW) (Kd.C_below hF hW) hc1 hc2
 have H2 := mk0 fun W (hW : Below w.heap.size w W) => scheme_calls sy fs A1 A2 c1 c2 W (Kd.C_below hS hW) (Kd.C_below hF hW)
 have H3 := mk0 fun W (hW : Below w.heap.size w W) => sorderS_calls sy fs A1 A2 c1 c2 W (Kd.C_below hS hW) (Kd.C_below hF hW)
 have H4 := mk0 fun W (hW : Below w.heap.size w W) => ssameG_calls sy sy fs fs A1 A2 A1 A2 c1 c2 c1 c2 W (Kd.C_below hS hW) (Kd.C_below hF hW) (Kd.C_below hS hW) (Kd.C_below hF hW) hc1 hc2 hc1 hc2
 have H5 := mk0 fun W (hW : Below w.heap.size w W) => put_calls sy fs A1 A2 c1 c2 W (Kd.C_below hS hW) (Kd.C_below hF hW)
 have H6 := mk0 fun W (hW : Below w.heap.size w W) => sranksS_calls sy fs A1 A2 c1 c2 W (Kd.C_below hS hW) (Kd.C_below hF hW)
 have H7 := mk0 fun W (hW : Below w.heap.size w W) => sreach_calls sy fs A1 A2 c1 c2 W (Kd.C_below hS hW) (Kd.C_below hF hW)
 have H8 := mk0 fun W (hW : Below w.heap.size w W) => rsyms_calls sy A1 c1 W (Kd.C_below hS hW) hc1
 have HAL := mk0 fun W (hW : Below w.heap.size w W) => alive_calls W (hm.below hW)
 have HCP := mk0 (And.intro hc1 hc2)
 have HB := mk0 (CB.mk (aA_ (Below.refl w.heap.size w) (.cells #[.slice A1 sy.length c1, .slice A2 fs.length c2] 25)) (aU_ w (.cells #[.slice A1 sy.length c1, .slice A2 fs.length c2] 25)))
 clear hS hF hc1 hc2 hm
 unfold PutE at H5
 unfold RksE at H6
 unfold ReQ at H7
 go_enter Tryz.func13, Tryz.ntmps13
 go_upto_region 1 with (fail)
 generalize w.alloc (.cells #[.slice A1 sy.length c1, .slice A2 fs.length c2] 25) = W1 at *
 obtain ⟨k0, k1⟩ := (HB.out).cells
 cases qv : schB sy fs with
 | false =>
  rw [qv] at H1
  clear qv
  go_wp2_with fail
  refine (H1.out _ (HB.out).hb).mono ?_
  rintro E W2 ⟨rfl, hb⟩
  have HB2 := mk0 ((HB.out).below hb)
  clear hb HB k0 k1
  go_wp2_with fail
  refine (HAL.out _ (HB2.out).hb).mono ?_
  rintro E W3 ⟨rfl, hb⟩
  have HB3 := mk0 ((HB2.out).below hb)
  clear hb HB2
  go_wp2
  go_ret
  exact ⟨rfl, (HB3.out).hb⟩
 | true =>
 have HQ := mk0 qv
 rw [qv] at H1
 rw [schV_good qv] at H2
 rw [show ordV sy fs = ((ordL fs : Int), 0) by unfold ordV; rw [qv]; rfl] at H3
 rw [show rksV sy fs = (sy.map (·.f1), 0) by unfold rksV; rw [qv]; rfl] at H6
 have HSM := mk0 (schB_small qv)
 have HSY := mk0 (show sy.length ≤ 24 from (symsB_len (schB_seven qv).1).1)
 have HN := mk0 (show fs.length ≤ 64 ∧ 1 ≤ fs.length from ⟨(schB_seven qv).2.2.1, (schB_seven qv).2.1⟩)
 rw [(schB_seven qv).1] at H8
 clear qv
 go_wp2_with fail
 refine (H1.out _ (HB.out).hb).mono ?_
 rintro E W2 ⟨rfl, hb⟩
 have HB2 := mk0 ((HB.out).below hb)
 clear hb HB k0 k1 H1
 obtain ⟨k0, k1⟩ := (HB2.out).cells
 have HCY := mk0 (show Calls Tryz.prog 34 #[.agg #[.slice A1 sy.length c1, .slice A2 fs.length c2]] W2 _ from by
  obtain ⟨k, hk⟩ := (copyS_ev sy fs (by have := HSY.out; omega) (by have := HN.out; omega) (HSM.out).1).rounds
  exact Q.virgationref03_Copy.calls k A1 c1 sy A2 c2 fs sy fs W2 (Kd.C_below HS.out (HB2.out).hb) (HCP.out).1 (Kd.C_below HF.out (HB2.out).hb) (HCP.out).2 hk)
 go_wp2_with fail
 refine (HCY.out).mono ?_
 rintro E W3 ⟨v1, v2, rfl, hR1, hR2, hb⟩
 obtain ⟨B1, d1, rfl⟩ := Kd.R_slice hR1
 obtain ⟨B2, d2, rfl⟩ := Kd.R_slice hR2
 have hba := aA_ (Below.refl W3.heap.size W3) (.cells #[.slice B1 sy.length d1, .slice B2 fs.length d2] 25)
 have HB4 := mk0 (((HB2.out).below hb).below hba)
 have HG4 := mk0 (aU_ W3 (.cells #[.slice B1 sy.length d1, .slice B2 fs.length d2] 25))
 have HW4 := mk0 (And.intro (Kd.C_below (Kd.R_reads' hR1).2.2 hba) (Kd.C_below (Kd.R_reads' hR2).2.2 hba))
 clear hb hba hR1 hR2 HB2 k0 k1 HCY
 go_upto_region 4 with (fail)
 generalize W3.alloc (.cells #[.slice B1 sy.length d1, .slice B2 fs.length d2] 25) = W4 at *
 generalize W3.heap.size = g at *
 obtain ⟨k0, k1⟩ := (HB4.out).cells
 go_wp2_with fail
 refine (H2.out _ (HB4.out).hb).mono ?_
 rintro E W5 ⟨rfl, hb⟩
 have HB5 := mk0 ((HB4.out).below hb)
 have HR5 := mk0 hb
 clear hb HB4 k0 k1 H2
 obtain ⟨k0, k1⟩ := (HB5.out).cells
 go_wp2_with fail
 refine (H3.out _ (HB5.out).hb).mono ?_
 rintro E W6 ⟨rfl, hb⟩
 have HB6 := mk0 ((HB5.out).below hb)
 have HR6 := mk0 (aM_ HR5.out (HR5.out).size hb)
 clear hb HB5 HR5 k0 k1 H3
 obtain ⟨k0, k1⟩ := (HB6.out).cells
 go_wp2_with fail
 refine (H4.out _ (HB6.out).hb).mono ?_
 rintro E W7 ⟨rfl, hb⟩
 have HB7 := mk0 ((HB6.out).below hb)
 have HR7 := mk0 (aM_ HR6.out (HR6.out).size hb)
 clear hb HB6 HR6 k0 k1 H4
 obtain ⟨k0, k1⟩ := (HB7.out).cells
 go_wp2_with fail
 refine (H5.out _ (HB7.out).hb).mono ?_
 rintro E W8 ⟨rfl, hb⟩
 have HB8 := mk0 ((HB7.out).below hb)
 have HR8 := mk0 (aM_ HR7.out (HR7.out).size hb)
 clear hb HB7 HR7 k0 k1 H5
 generalize putV sy fs = pv at *
 obtain ⟨k0, k1⟩ := (HB8.out).cells
 go_wp2_with fail
 refine (H6.out _ (HB8.out).hb).mono ?_
 rintro E W9 ⟨hb, u, rfl, hu⟩
 obtain ⟨A5, c5, rfl⟩ := Kd.R_slice hu
 have HRK := mk0 (RK.of hu)
 have HRB := mk0 hb
 have HML : (sy.map (·.f1)).length = sy.length := List.length_map ..
 rw [HML] at HRK ⊢
 clear hb hu k0 k1 H6 HML
 go_wp2
 go_loopg [29] sy.length (fun gg v29 wi => ∃ j : Nat, j ≤ sy.length ∧ sy.length - j ≤ gg ∧ v29 = .int .i64 j ∧ Aside0 (Below W8.heap.size W8 wi) ∧ Aside0 (RK W8 wi A5 sy.length))
 case atStart => exact ⟨0, Nat.zero_le _, Nat.le_refl _, rfl, HRB, HRK⟩
 case round =>
  clear HRB HRK
  obtain ⟨j, hj, hgg, rfl, HRB, HRK⟩ := hrel
  by_cases hlt : j < sy.length
  ·have hltz : (j : Int) < (sy.length : Int) := by omega
   have hnn : (0 : Int) ≤ (j : Int) := by omega
   have HLT := mk0 hlt
   obtain ⟨q, cs, rfl, hqw, hcs, hci⟩ := HRK.out j hlt
   obtain ⟨v, hv⟩ := hci j hlt
   have n0 : wr.cell? ⟨q, j, none⟩ = some (.int .i64 v) := by rw [aC_ hcs]; exact hv
   have nf0 : wr.frozen? ⟨q, j, none⟩ = false := aJ_ hcs j
   have HKZ := mk0 (show wrap64 ((j : Int) + 1) = ((j + 1 : Nat) : Int) by rw [wr_id (by omega) (by have := HSY.out; omega)]; rfl)
   have HRS := mk0 (fun (u : Int) => And.intro ((HRB.out).setCell (p := ⟨q, j, none⟩) hqw (.int .i64 u)) (RK.set (j := j) (v := u) hqw hcs hci))
   clear hqw hcs hci hv HRB HRK
   go_wp2
   go_roundg (sy.length - (j + 1))
   case measure => omega
   case rel => exact ⟨j + 1, HLT.out, Nat.le_refl _, by rw [HKZ.out], ⟨(HRS.out _).1⟩, ⟨(HRS.out _).2⟩⟩
  ·have hltz : ¬ (j : Int) < (sy.length : Int) := by omega
   obtain rfl : j = sy.length := by omega
   have HB9 := mk0 ((HB8.out).below HRB.out)
   have HR9 := mk0 (aM_ HR8.out (HR8.out).size HRB.out)
   clear hgg hj hlt HRK HRB HB8 HR8
   obtain ⟨k0, k1⟩ := (HB9.out).cells
   go_wp2_with fail
   refine (H7.out _ (HB9.out).hb).mono ?_
   rintro E W10 ⟨hb, hE⟩
   have HB10 := mk0 ((HB9.out).below hb)
   have HR10 := mk0 (aM_ HR9.out (HR9.out).size hb)
   rcases hE with ⟨hq, _⟩ | ⟨_, l2, A6, c6, _, rfl, _, _⟩
   ·rw [HQ.out] at hq; cases hq
   clear hb HB9 HR9 k0 k1 H7
   obtain ⟨k0, k1⟩ := (HB10.out).cells
   have g0 : W10.cell? ⟨g, 0, none⟩ = some (.slice B1 sy.length d1) := (aC_ (aK_ HG4.out HR10.out) 0).trans rfl
   have g1 : W10.cell? ⟨g, 1, none⟩ = some (.slice B2 fs.length d2) := (aC_ (aK_ HG4.out HR10.out) 1).trans rfl
   have HEQ := mk0 (requalS_calls sy fs A1 A2 B1 B2 c1 c2 d1 d2 W10 (Kd.C_below HS.out (HB10.out).hb) (Kd.C_below HF.out (HB10.out).hb) (Kd.C_below (HW4.out).1 HR10.out) (Kd.C_below (HW4.out).2 HR10.out) (HSM.out).1 (HSM.out).2.1 (HSM.out).2.2)
   go_wp2_with fail
   refine (HEQ.out).mono ?_
   rintro E W11 ⟨rfl, hb⟩
   have HB11 := mk0 ((HB10.out).below hb)
   clear hb HB10 HR10 k0 k1 g0 g1 HEQ
   obtain ⟨k0, k1⟩ := (HB11.out).cells
   go_wp2_with fail
   refine (H8.out _ (HB11.out).hb).mono ?_
   rintro E W12 ⟨rfl, hb⟩
   have HB12 := mk0 ((HB11.out).below hb)
   clear hb HB11 k0 k1 H8
   obtain ⟨k0, k1⟩ := (HB12.out).cells
   obtain ⟨ad, As, cs, At, ct, e, hx0, hx1, hx2, hx3, hx4, hls, hCs, hlt4, hCt⟩ := at_T52 HF.out 0 (by omega) (by have := HN.out; omega)
   subst e
   rw [show ((0 : Int).toNat * 5) = 0 from rfl, Addr.add_zero'] at hx1
   replace hx1 := aP_ (HB12.out).hb hx1
   have h5z : (0 : Int) < (fs.length : Int) := by have := HN.out; omega
   have HIS := mk0 (show Calls Tryz.prog 37 #[.agg #[.slice As (rd_T52 fs 0).f1.f0.length cs]] W12 (fun E w' => E = .returned (.bool true) ∧ Below W12.heap.size W12 w') from by
    have hh := ris_calls (rd_T52 fs 0).f1 As cs W12 (Kd.C_below hCs (HB12.out).hb) hls
    have h0 : (rd_T52 fs 0) ∈ fs := by
     have := rdF_at (l := fs) (j := 0) (by have := HN.out; omega)
     rw [show ((0 : Nat) : Int) = 0 from rfl] at this
     rw [this]
     exact l11_ _
    have hk := (schB_seven HQ.out).2.2.2.2.1 _ h0
    unfold headOk at hk
    rw [l19_] at hk
    rw [hk.2] at hh
    exact hh)
   clear hx0 hx2 hx3 hx4 hls hCs hlt4 hCt
   generalize (rd_T52 fs 0).f1.f0.length = n0 at *
   go_wp2_with fail
   refine (HIS.out).mono ?_
   rintro E W13 ⟨rfl, hb⟩
   have HB13 := mk0 ((HB12.out).below hb)
   clear hb HB12 k0 k1 hx1 HIS
   go_wp2_with fail
   refine (HAL.out _ (HB13.out).hb).mono ?_
   rintro E W14 ⟨rfl, hb⟩
   have HB14 := mk0 ((HB13.out).below hb)
   clear hb HB13
   go_wp2
   go_ret
   exact ⟨rfl, (HB14.out).hb⟩
def Opens {α : Type} (P : Program) (t : TypeId) (d : Kd α) (W : α → Prop) : Prop :=
 ∀ {H : Type} (enc : TypeId × Value → H) (w : World) (base : Nat) (held : Bool) (fuel : Nat) (cs : List Value) (x : DataW H × List MemPlace),
  DataW.trod enc P w base (fun _ => true) held fuel t cs = some x → ∃ a : α, d.K w a cs ∧ W a
theorem choose_list {α : Type} {p : Nat → α → Prop} {n : Nat} (h : ∀ i, i < n → ∃ y, p i y) : ∃ xs : List α, xs.length = n ∧ ∀ i y, xs[i]? = some y → p i y := by
 induction n with
 | zero => exact ⟨[], rfl, fun i y h => by simp at h⟩
 | succ n ih =>
  obtain ⟨xs, h1, h2⟩ := ih (fun i hi => h i (by omega))
  obtain ⟨y, hy⟩ := h n (by omega)
  refine ⟨xs ++ [y], by simp [h1], fun i z hz => ?_⟩
  rcases Nat.lt_or_ge i xs.length with hi | hi
  ·rw [List.getElem?_append_left hi] at hz
   exact h2 i z hz
  ·rw [List.getElem?_append_right hi] at hz
   have h3 : i - xs.length = 0 := by
    rcases Nat.eq_zero_or_pos (i - xs.length) with h | h
    ·exact h
    ·rw [List.getElem?_eq_none (by simp; omega)] at hz; cases hz
   rw [h3] at hz
   obtain rfl : y = z := by simpa using hz
   rw [show i = n from by omega]
   exact hy
theorem opens_slice {α : Type} {P : Program} {t e : TypeId} {d : Kd α} {W : α → Prop} (ht : P.underlying t = some (.slice e)) (hsz : P.cellsOf e = d.sz) (ho : Opens P e d W) : Opens P t (Kd.slice e d) (fun xs => ∀ x ∈ xs, W x) := by
 intro H enc w base held fuel cs x h
 rcases open_slice ht h with ⟨rfl, _⟩ | ⟨a, len, cap, m, n, D, Pl, rfl, _, hl, hm, hmm, _, hx⟩
 ·exact ⟨[], ⟨none, 0, rfl, Nat.le_refl _, rfl, by simp, fun h0 => absurd h0 (by simp)⟩, by simp⟩
 ·have hmm' : m = cap := by simpa using hmm
  have each : ∀ i, i < len → ∃ y : α, ∃ cs', w.cells? base (a.add (i * P.cellsOf e)) (P.cellsOf e) = some cs' ∧ d.K w y cs' ∧ W y := by
   intro i hi
   obtain ⟨cs', h1, h2⟩ := hx i (by omega)
   obtain ⟨y, hy, hw⟩ := ho enc w base held n cs' _ h2
   exact ⟨y, cs', h1, hy, hw⟩
  obtain ⟨xs, hxl, hxs⟩ := choose_list each
  refine ⟨xs, ⟨some a, cap, by rw [hxl], by omega, rfl, ?_, fun _ => ⟨a, rfl, fun j p hj => ?_⟩⟩, fun y hy => ?_⟩
  ·have : maxLen = 9223372036854775807 := rfl
   omega
  ·obtain ⟨cs', h1, h2, _⟩ := hxs j p hj
   obtain ⟨_, hlen, hcell⟩ := World.cells?_some h1
   refine ⟨cs', d.K_len h2, h2, fun i u hu => ?_⟩
   have hi : i < cs'.length := (List.getElem?_eq_some_iff.1 hu).1
   have h3 := hcell i (by omega)
   rw [Go.Deep.add_add, hsz] at h3
   rw [h3]; exact hu
  ·obtain ⟨j, hj, rfl⟩ := List.getElem_of_mem hy
   obtain ⟨_, _, _, h3⟩ := hxs j _ (l17_ hj)
   exact h3
theorem open_row {α H : Type} {enc : TypeId × Value → H} {P : Program} {t e : TypeId} {d : Kd α} {W : α → Prop} {w : World} {base fuel : Nat} {held : Bool} {v : Value} {x : DataW H × List MemPlace} (ht : P.underlying t = some (.slice e)) (hsz : P.cellsOf e = d.sz) (ho : Opens P e d W)
  (h : DataW.trod enc P w base (fun _ => true) held fuel t [v] = some x) : ∃ A c xs, v = .slice A xs.length c ∧ xs.length ≤ c ∧ d.C w A xs.length xs ∧ ∀ y ∈ xs, W y := by
 obtain ⟨xs, ⟨A, c, hv, hc, hC⟩, hW⟩ := opens_slice ht hsz ho enc w base held fuel [v] x h
 exact ⟨A, c, xs, by simpa using hv, hc, hC, hW⟩
theorem open_kidsG {α H : Type} {d : Kd α} {ts te : TypeId} (hts : Tryz.prog.underlying ts = some (.slice te)) (hsz : Tryz.prog.cellsOf te = d.sz) {enc : TypeId × Value → H} {w : World} {base fuel : Nat} {held : Bool} {cs : List Value} {x : DataW H × List MemPlace} (h : DataW.trod enc Tryz.prog w base (fun _ => true) held fuel ts cs = some x)
  (each : ∀ (fuel : Nat) (cs : List Value) (y : DataW H × List MemPlace), SizeOf.sizeOf y.1 < SizeOf.sizeOf x.1 → DataW.trod enc Tryz.prog w base (fun _ => true) held fuel te cs = some y → ∃ t : α, d.K w t cs) :
  ∃ (A : Option Addr) (c : Nat) (l : List α), cs = [.slice A l.length c] ∧ l.length ≤ c ∧ d.C w A l.length l := by
 rcases open_slice hts h with ⟨rfl, _⟩ | ⟨a, len, cap, m, n, D, Pl, rfl, _, hl, hm, hmm, hxe, hx⟩
 ·exact ⟨none, 0, [], rfl, Nat.le_refl _, rfl, by simp, fun h0 => absurd h0 (by simp)⟩
 ·have hmm' : m = cap := by simpa using hmm
  have hel : ∀ i, i < len → ∃ t : α, ∃ cs', w.cells? base (a.add (i * Tryz.prog.cellsOf te)) (Tryz.prog.cellsOf te) = some cs' ∧ d.K w t cs' := by
   intro i hi
   obtain ⟨cs', h1, h2⟩ := hx i (by omega)
   have hlt : SizeOf.sizeOf (D i) < SizeOf.sizeOf x.1 := by
    rw [hxe]
    have hmem : D i ∈ (List.range len).map D := List.mem_map.2 ⟨i, List.mem_range.2 hi, rfl⟩
    have := List.sizeOf_lt_of_mem hmem
    simp only [DataW.slice.sizeOf_spec]
    omega
   obtain ⟨t, ht⟩ := each n cs' _ hlt h2
   exact ⟨t, cs', h1, ht⟩
  obtain ⟨xs, hxl, hxs⟩ := choose_list hel
  refine ⟨some a, cap, xs, by rw [hxl], by omega, rfl, ?_, fun _ => ⟨a, rfl, fun j p hj => ?_⟩⟩
  ·have : maxLen = 9223372036854775807 := rfl
   omega
  ·obtain ⟨cs', h1, h2⟩ := hxs j p hj
   obtain ⟨_, hlen, hcell⟩ := World.cells?_some h1
   refine ⟨cs', d.K_len h2, h2, fun i u hu => ?_⟩
   have hi : i < cs'.length := (List.getElem?_eq_some_iff.1 hu).1
   have h3 := hcell i (by omega)
   rw [Go.Deep.add_add, hsz] at h3
   rw [h3]; exact hu
theorem open_srt {H : Type} {enc : TypeId × Value → H} {w : World} {base : Nat} {held : Bool} (N : Nat) : ∀ (fuel : Nat) (cs : List Value) (x : DataW H × List MemPlace), SizeOf.sizeOf x.1 ≤ N → DataW.trod enc Tryz.prog w base (fun _ => true) held fuel 47 cs = some x → ∃ t : S47, k47.K w t cs := by
 induction N with
 | zero =>
  intro fuel cs x hN
  have : 0 < SizeOf.sizeOf x.1 := by cases x.1 <;> simp <;> omega
  omega
 | succ N ih =>
  intro fuel cs x hN h
  obtain ⟨y0, n, rfl, hl, h0⟩ := trod_struct1 Tryz.underlying47 h
  have o0 : (Tryz.prog.cellsOf 43) = 1 := by kernel_rfl
  have o2 : (Tryz.prog.cellsOf 47) = 1 := by kernel_rfl
  rw [o2] at hl
  match cs, hl with
  | [c0], _ =>
   simp only [o0] at h0
   obtain ⟨A, c, l, e1, hlc, hC⟩ := open_kidsG (d := k47) Tryz.underlying43 (by kernel_rfl) h0 (fun fuel cs y hy hh => ih fuel cs y (by simp only [DataW.agg.sizeOf_spec, List.cons.sizeOf_spec, List.nil.sizeOf_spec] at hN; omega) hh)
   obtain rfl : c0 = .slice A l.length c := by simpa using e1
   exact ⟨⟨l⟩, Q.k47_mk w ⟨l⟩ hlc hC⟩
theorem open_trm {H : Type} {enc : TypeId × Value → H} {w : World} {base : Nat} {held : Bool} (N : Nat) : ∀ (fuel : Nat) (cs : List Value) (x : DataW H × List MemPlace), SizeOf.sizeOf x.1 ≤ N → DataW.trod enc Tryz.prog w base (fun _ => true) held fuel 50 cs = some x → ∃ t : S50, k50.K w t cs := by
 induction N with
 | zero =>
  intro fuel cs x hN
  have : 0 < SizeOf.sizeOf x.1 := by cases x.1 <;> simp <;> omega
  omega
 | succ N ih =>
  intro fuel cs x hN h
  obtain ⟨y0, y1, y2, n, rfl, hl, h0, h1, h2⟩ := trod_struct3 Tryz.underlying50 h
  have o0 : (Tryz.prog.cellsOf 3) = 1 := by kernel_rfl
  have o1 : (Tryz.prog.cellsOf 48) = 1 := by kernel_rfl
  have o2 : (Tryz.prog.cellsOf 50) = 3 := by kernel_rfl
  rw [o2] at hl
  match cs, hl with
  | [c0, c1, c2], _ =>
   simp only [o0, o1] at h0 h1 h2
   obtain ⟨s, e0, _, _⟩ := DataW.trod_int Tryz.underlying3 h0
   obtain ⟨t, e1, _, _⟩ := DataW.trod_int Tryz.underlying3 h1
   obtain ⟨A, c, l, e2, hlc, hC⟩ := open_kidsG (d := k50) Tryz.underlying48 (by kernel_rfl) h2 (fun fuel cs y hy hh => ih fuel cs y (by simp only [DataW.agg.sizeOf_spec, List.cons.sizeOf_spec, List.nil.sizeOf_spec] at hN; omega) hh)
   obtain rfl : c0 = .int .i64 s := by simpa using e0
   obtain rfl : c1 = .int .i64 t := by simpa using e1
   obtain rfl : c2 = .slice A l.length c := by simpa using e2
   exact ⟨⟨s, t, l⟩, Q.k50_mk w ⟨s, t, l⟩ hlc hC⟩
theorem opens_fun : Opens Tryz.prog 52 k52 (fun _ => True) := by
 intro H enc w base held fuel cs x h
 obtain ⟨y0, y1, y2, n, rfl, hl, h0, h1, h2⟩ := trod_struct3 Tryz.underlying52 h
 have o0 : (Tryz.prog.cellsOf 9) = 1 := by kernel_rfl
 have o1 : (Tryz.prog.cellsOf 47) = 1 := by kernel_rfl
 have o2 : (Tryz.prog.cellsOf 50) = 3 := by kernel_rfl
 have o3 : (Tryz.prog.cellsOf 52) = 5 := by kernel_rfl
 rw [o3] at hl
 match cs, hl with
 | [c0, c1, c2, c3, c4], _ =>
  simp only [o0, o1, o2] at h0 h1 h2
  obtain ⟨s, e0, _, _⟩ := DataW.trod_string Tryz.underlying9 h0
  obtain ⟨t, ht⟩ := open_srt _ _ _ _ (Nat.le_refl _) h1
  obtain ⟨u, hu⟩ := open_trm _ _ _ _ (Nat.le_refl _) h2
  obtain ⟨A1, d1, e1, l1, g1⟩ := Q.k47_open ht
  obtain ⟨A4, d4, e4, l4, g4⟩ := Q.k50_open hu
  have f0 : c0 = .string s := by simpa using e0
  have f1 : c1 = .slice A1 t.f0.length d1 := by simpa using e1
  have f4 : c2 = .int .i64 u.f0 ∧ c3 = .int .i64 u.f1 ∧ c4 = .slice A4 u.f2.length d4 := by simpa using e4
  obtain ⟨rfl, rfl, rfl⟩ := f4
  subst f0 f1
  exact ⟨⟨s, t, u⟩, Q.k52_mk w ⟨s, t, u⟩ l1 g1 l4 g4, trivial⟩
theorem opens_sym : Opens Tryz.prog 71 k71 (fun _ => True) := by
 intro H enc w base held fuel cs x h
 obtain ⟨y0, y1, n, rfl, hl, h0, h1⟩ := trod_struct2 Tryz.underlying71 h
 have o0 : (Tryz.prog.cellsOf 9) = 1 := by kernel_rfl
 have o1 : (Tryz.prog.cellsOf 3) = 1 := by kernel_rfl
 have o2 : (Tryz.prog.cellsOf 71) = 2 := by kernel_rfl
 rw [o2] at hl
 match cs, hl with
 | [c0, c1], _ =>
  simp only [o0, o1] at h0 h1
  obtain ⟨s, e0, _, _⟩ := DataW.trod_string Tryz.underlying9 h0
  obtain ⟨t, e1, _, _⟩ := DataW.trod_int Tryz.underlying3 h1
  obtain rfl : c0 = .string s := by simpa using e0
  obtain rfl : c1 = .int .i64 t := by simpa using e1
  exact ⟨⟨s, t⟩, Q.k71_mk w ⟨s, t⟩, trivial⟩
theorem arg_scheme {H : Type} {enc : TypeId × Value → H} {w : World} {base : Nat} {held : Bool} {v : Value} {d : DataW H} {p : List MemPlace} (hv : Value.okWide Tryz.prog w .any base 25 v) (h : DataW.Trod enc Tryz.prog w 0 (fun _ => true) held 25 v d p) :
  ∃ (sy : List S71) (fs : List S52) (A1 : Option Addr) (c1 : Nat) (A2 : Option Addr) (c2 : Nat), v = .agg #[.slice A1 sy.length c1, .slice A2 fs.length c2] ∧ sy.length ≤ c1 ∧ Kd.C k71 w A1 sy.length sy ∧ fs.length ≤ c2 ∧ Kd.C k52 w A2 fs.length fs := by
 obtain ⟨x0, y0, _, _, n0, rfl, _, _, a0, b0⟩ := Go.Joins.open_agg2 Tryz.underlying25 (by kernel_rfl) (by kernel_rfl) hv h
 obtain ⟨A1, c1, sy, rfl, hl1, hC1, _⟩ := open_row (d := k71) Tryz.underlying22 (by kernel_rfl) opens_sym a0
 obtain ⟨A2, c2, fs, rfl, hl2, hC2, _⟩ := open_row (d := k52) Tryz.underlying23 (by kernel_rfl) opens_fun b0
 exact ⟨sy, fs, A1, c1, A2, c2, rfl, hl1, hC1, hl2, hC2⟩
theorem own : ownKnob Tryz.prog.godebug = none := by kernel_rfl
theorem laidOut : laidOutB Tryz.prog = true := by kernel_rfl
abbrev laid7 : List (String × DataW Unit) := [("math/bits.deBruijn32tab", Rows.laid_math_bits_deBruijn32tab), ("math/bits.deBruijn64tab", Rows.laid_math_bits_deBruijn64tab), ("internal/strconv.uint64pow10", Rows.laid_internal_strconv_uint64pow10), ("unicode/utf8.acceptRanges", Rows.laid_unicode_utf8_acceptRanges), ("strconv.ErrRange", Rows.laid_strconv_ErrRange), ("strconv.ErrSyntax", Rows.laid_strconv_ErrSyntax), ("unicode/utf8.first", Rows.laid_unicode_utf8_first)]
theorem mx_of_shaped {w : World} (h : w.ShapedOpen Tryz.prog) : MX w :=
 Go.Proofs.cell_of_shapedOpen_int (g := 0) (t := 3) (zero := #[.int .i64 0]) h (l0_ (by kernel_rfl)) (by kernel_rfl) rfl (by kernel_rfl) (by kernel_rfl) Tryz.underlying3
theorem handed_and_shaped {H : Type} {enc : TypeId × Value → H} {a : Assume} {C : Checked} {os : Os} {f : FuncId} {fn : Func} {s : ChangeSpec} {conds : List PathCond} {apart fresh handsOn again : Bool} {X : World → Array Value → Prop}
  (hX : ∀ (w w' : World) (args : Array Value), w.heap = w'.heap → X w args → X w' args)
  (own : ownKnob C.prog.godebug = none) (started : os.Started) (noInit : C.prog.inits.idxOf? f = none) (hfn : C.prog.funcs[f]? = some fn)
  (witness : ∃ (w : World) (tape : Tape) (i : Input), w.os = os ∧ (w.forCall tape i).Shaped C.prog ∧ i.vars = [] ∧ Input.okWide C.prog (w.forCall tape i) .any w.heap.size f i ∧
   ((s.pre enc C.prog fn conds apart (w.forCall tape i).memory i.args ∧ X (w.forCall tape i).memory i.args) ∧ sizedMet enc C.prog fn (OpenSpec.ofChange s) apart (w.forCall tape i).memory i.args) ∧ a.holds C.prog (lone (Frame.enter C.prog f i.args .normal) [] (w.forCall tape i)))
  (contract : ∀ (W : World) (base : Nat) (args : Array Value) (ds gs : List (DataW H)) (before : List MemPlace),
   (∀ (j : Nat) t v, fn.params[j]? = some t → args[j]? = some v → Value.okWide C.prog W .any base t v) →
   DataW.Whole enc C.prog fn.params.toList s.vars apart W args.toList ds gs before →
   conds.all (PathCond.test C.prog ⟨fn.params.toList, ds, s.plain.varTypes C.prog, gs⟩) = true →
   X W args → W.ShapedOpen C.prog →
   Calls C.prog f args W fun e W' => ∃ v, e = .returned v ∧ s.post enc C.prog fn apart fresh handsOn again W args v W') :
  ReturnsInHanded a C os f .any (fun w args => (s.pre enc C.prog fn conds apart w args ∧ X w args) ∧ sizedMet enc C.prog fn (OpenSpec.ofChange s) apart w args) (s.post enc C.prog fn apart fresh handsOn again) := by
 refine returnsInHanded_of_calls own started noInit witness ?_
 intro w tape i _ hsh _ hok hpre hholds
 obtain ⟨_, _, _, fn', hfn', _, _, _, _, hval⟩ := hok
 have e : fn' = fn := l13_ (hfn'.symm.trans hfn)
 subst e
 obtain ⟨⟨⟨ds, gs, before, hw, hc⟩, hx⟩, hz⟩ := hpre
 have hw' := DataW.Whole.of_heap (w' := w.forCall tape i) (by rfl) hw
 refine (contract (w.forCall tape i) w.heap.size i.args ds gs before hval hw' hc (hX _ _ _ (by rfl) hx) hsh).mono fun e W' ⟨v, he, hp⟩ => ?_
 subst he
 exact ChangeSpec.post_blind hp
end Go.Proofs.YthflpbgloeimfaaGreatDoor.H
