/- What autoDuality_calls, handed_and_shaped, own, laidOut, laid7, mx_of_shaped, tabD_of_laid, arg_auto, arg_tree needs, out of my texts, by a program (slim.py). -/
import Derived.Test.YtbmcigakiibncaaGreatDoorSD2
namespace Go.Proofs.YtbmcigakiibncaaGreatDoor.H
open Go.RowKit Go.Proofs.YtbmcigakiibncaaGreatDoorW.PrintWords Go.Proofs.YtbmcigakiibncaaGreatDoorW.PrintLast Go.Proofs.YtbmcigakiibncaaGreatDoorW.PrintMore
set_option linter.unusedVariables false
set_option linter.unusedSimpArgs false
set_option maxHeartbeats 8000000 in
set_option maxRecDepth 100000 in
theorem get_calls (t : ByteArray) (w : World) (hm : MX w) :
    Calls Tryz.prog 26 #[.string t] w (GetE t w) := by
  have hmf := run_mkfun9
  have HM := Aside0.mk hm
  have HG := Aside0.mk (GH.start w)
  clear hm
  go_enter_defers Tryz.func26, Tryz.ntmps26
  go_upto_region 1 with (fail)
  generalize ((w.alloc (.cells #[.slice none 0 0, .int .i64 0, .slice none 0 0] 25)).alloc (.cells #[.int .i64 0] 29)) = W1 at *
  cases q1 : decide ((t.size : Int) > 65536) with
  | true =>
    obtain ⟨c0, c1, c2, c3⟩ := (HG.out).cells
    obtain ⟨f0, f1, f2, f3⟩ := (HG.out).frozen
    have HR := Aside0.mk (show getR t = (3, [], 0, []) by unfold getR; rw [if_pos (by have := of_decide_eq_true q1; omega)])
    have HQ := Aside0.mk ((((HG.out).set0 (.slice none 0 0)).set1 (.int .i64 0)).set2 (.slice none 0 0))
    go_wp2
    exact get_ret0 HR.out ((HQ.out).hb.setCell (p := ⟨w.heap.size + 1, 0, none⟩) (Nat.le_succ _) _) (blk_far (HQ.out).ha (by show w.heap.size ≠ w.heap.size + 1; omega) _) (blk_set (HQ.out).he 0 _) _ rfl rfl
  | false =>
  have hsz : t.size ≤ 65536 := by have := of_decide_eq_false q1; omega
  have HSZ := Aside0.mk hsz
  have HSP := Aside0.mk (split_calls t 10 W1 (by omega) ((HM.out).below (HG.out).hb))
  clear q1
  go_wp2_with fail
  refine (HSP.out).mono ?_
  rintro E w2 ⟨rfl, hw⟩
  have hb := below_alloc (Below.refl W1.heap.size W1) (.cells ((chunks t 10).map Value.string).toArray 9)
  have hbn := blk_new W1 (.cells ((chunks t 10).map Value.string).toArray 9)
  rw [← hw] at hb hbn
  have HG2 := Aside0.mk (GL.mk ((HG.out).below hb) hbn (by have := blk_lt (HG.out).he; omega))
  have HLS := Aside0.mk (show (chunks t 10).length ≤ 65537 from by have := chunks_short t 10; omega)
  have HV1 := Aside0.mk (fun h => getV_short (t := t) h)
  have HV2 := Aside0.mk (fun h => getV_end (t := t) h)
  have HV3 := Aside0.mk (fun h => getV_first (t := t) h)
  have HV4 := Aside0.mk (fun i hi h => getV_rank (t := t) (i := i) hi h)
  have HV5 := Aside0.mk (fun h => getV_second (t := t) h)
  have HV6 := Aside0.mk (fun h => getV_sec (t := t) h)
  have HCS := Aside0.mk (fun i => chunk_size t 10 i)
  clear hw hb hbn HG HSP
  generalize hLL : chunks t 10 = L at *
  generalize W1.heap.size = bl at *
  cases q2 : decide ((L.length : Int) < 3) with
  | true =>
    have HN := Aside0.mk (HV1.out (by have := of_decide_eq_true q2; omega))
    go_wp2
    exact get_panic (getR_bad HSZ.out HN.out) (HG2.out).g _ rfl rfl
  | false =>
  have hl3 : 3 ≤ L.length := by have := of_decide_eq_false q2; omega
  have HL3 := Aside0.mk hl3
  have hk := strs_cell (HG2.out).l (show L.length - 1 < L.length by omega)
  have hk0 := strs_cell (HG2.out).l (show 0 < L.length by omega)
  have HLE := Aside0.mk (HV2.out)
  clear HV2
  generalize hle : L.getD (L.length - 1) ByteArray.empty = le at *
  have HLEE := Aside0.mk hle
  generalize hs0 : L.getD 0 ByteArray.empty = s0 at *
  have HS0 := Aside0.mk hs0
  have HS0Z := Aside0.mk (show s0.size ≤ t.size by rw [← hs0]; exact HCS.out 0)
  clear hle hs0
  have hz2 : IntKind.i64.wrap ((L.length : Int) - 1) = (L.length : Int) - 1 := by have := HLS.out; simp [IntKind.wrap, IntKind.bits, IntKind.signed]; omega
  cases q3 : le.toList.isEmpty with
  | false =>
    have HN := Aside0.mk (HLE.out (fun e => by rw [e, Lib.toList_data] at q3; revert q3; decide))
    go_wp2
    exact get_panic (getR_bad HSZ.out HN.out) (HG2.out).g _ rfl rfl
  | true =>
    have HWO := Aside0.mk (wordsB_calls s0 sRanks w2 (by have := HS0Z.out; omega) ((HM.out).below (HG2.out).g.hb))
    go_wp2_with fail
    refine (HWO.out).mono ?_
    rintro E w3 ⟨hb, ⟨hne, rfl⟩ | ⟨hhd, o, rfl, ho, hws⟩⟩
    · have HN := Aside0.mk (HV3.out hne)
      have HG3 := Aside0.mk ((HG2.out).below hb)
      unfold pbad
      go_wp2
      exact get_panic (getR_bad HSZ.out HN.out) (HG3.out).g _ rfl rfl
    · have HG3 := Aside0.mk ((HG2.out).below hb)
      have HWS := Aside0.mk hws
      have HO := Aside0.mk ho
      have HHD := Aside0.mk hhd
      have HBW := Aside0.mk (show w.heap.size + 2 ≤ w2.heap.size from by have := blk_lt (HG2.out).l; have := (HG2.out).hbl; omega)
      have HLEM := Aside0.mk (show le = ByteArray.empty from string_inj (by rw [Lib.toList_data, Lib.toList_data]; rw [Lib.toList_data] at q3; rw [List.isEmpty_iff.1 q3]; rfl))
      clear hb hws ho hhd hk hk0 hz2 HG2 HWO q2 q3
      generalize w2.heap.size = bw at *
      generalize hws0 : chunks s0 32 = ws at *
      generalize hwd : ws.drop 1 = wd at *
      have HWZ := Aside0.mk (show ∀ i, (wd.getD i ByteArray.empty).size ≤ s0.size from fun i => by
        have h1 := chunk_size s0 32 (1 + i)
        rw [hws0] at h1
        rw [← hwd]
        rw [show (ws.drop 1).getD i ByteArray.empty = ws.getD (1 + i) ByteArray.empty by simp [List.getD_eq_getElem?_getD, List.getElem?_drop, Nat.add_comm]]
        exact h1)
      have HWD := Aside0.mk hwd
      have HWS0 := Aside0.mk hws0
      have HWL := Aside0.mk (show wd.length ≤ 65536 from by
        have h1 := chunks_short s0 32
        rw [hws0] at h1
        rw [← hwd, List.length_drop]
        have := HS0Z.out; have := HSZ.out
        omega)
      clear hwd hws0
      go_wp2
      go_loopg [47] wd.length (fun gg v47 wi => ∃ (i : Nat) (A : Option Addr) (c : Nat), i ≤ wd.length ∧ wd.length - i ≤ gg ∧ v47 = .int .i64 i ∧ Aside0 (GL w wi (.slice A i c) (.int .i64 0) (.slice none 0 0) bl L) ∧ Aside0 (wi.heap[bw]? = some (.cells (ws.map Value.string).toArray 9 (0, 0))) ∧ Aside0 (Kd.R (Kd.int .i64) 3 wi w.heap.size (fun k => w.heap.size + 2 ≤ k) (.slice A i c) ((wd.take i).map valW)) ∧ Aside0 (∀ j, j < i → okW (wd.getD j ByteArray.empty) = true))
      case atStart => exact ⟨0, none, 0, Nat.zero_le _, Nat.le_refl _, rfl, HG3, HWS, ⟨Kd.R_nil _ _ _ _ _⟩, ⟨fun j hj => absurd hj (Nat.not_lt_zero _)⟩⟩
      case round =>
        clear HG3 HWS
        obtain ⟨i, A, c, hi, hgg, rfl, HG4, HWB, HR, HOK⟩ := hrel
        by_cases hlt : i < wd.length
        · have hltz : (i : Int) < (wd.length : Int) := by omega
          have hk := words_cell (HWB.out) (show i < (ws.drop 1).length by rw [HWD.out]; exact hlt) (by rw [HWD.out]; exact HO.out)
          rw [HWD.out] at hk
          have HS1Z := Aside0.mk (HWZ.out i)
          have HS1B := Aside0.mk (HV4.out i)
          generalize hs1 : wd.getD i ByteArray.empty = s1 at *
          have HS1 := Aside0.mk hs1
          clear hs1
          go_upto_region 10 with (fail)
          clear hk
          have HN := Aside0.mk (number_calls s1 wr.drew (by have := HS1Z.out; have := HS0Z.out; have := HSZ.out; omega))
          obtain ⟨k0, k1, k2, k3⟩ := (HG4.out).g.cells
          cases q4 : okW s1 with
          | false =>
            have HX := Aside0.mk (HS1B.out hlt q4)
            have HNE := Aside0.mk (show numE s1.data.toList = pbad by unfold numE; rw [show numOk s1.data.toList = false from q4]; rfl)
            rw [HNE.out] at HN
            have HPX := Aside0.mk (fun w4 (hb : Below wr.drew.heap.size wr.drew w4) => (HG4.out).below (below_then (below_drew (Below.refl wr.heap.size wr)) (below_drew (Below.refl wr.heap.size wr)).size hb))
            refine wp_region_any (by kernel_rfl) ?_
            change wpAny _ _ _ _ _ _ _ (World.drew _)
            refine wpAny_ready (rs := [0, 2]) (by kernel_rfl) (by simp) ?_
            refine AllReady.cons rfl (fun K hK => ?_) ?_
            · go_simp
              refine hK _ _ ?_
              clear hK K
              refine wpAny_ready (rs := [1, 2]) (by kernel_rfl) (by simp) ?_
              refine AllReady.cons rfl (fun K hK => ?_) ?_
              · go_simp
                refine hK _ _ ?_
                clear hK K
                refine wpAny_ready (rs := [2]) (by kernel_rfl) (by simp) ?_
                refine AllReady.cons rfl (fun K hK => ?_) ?_
                · go_simp
                  refine hK _ _ ?_
                  clear hK K
                  refine wpAny_ready (rs := [3]) (by kernel_rfl) (by simp) ?_
                  refine AllReady.cons rfl (fun K hK => ?_) ?_
                  · go_simp
                    go_wp2_with (go_at_call 61; refine (HN.out).mono ?_; rintro E w4 ⟨rfl, hb⟩; exact get_panic (getR_bad HSZ.out HX.out) ((HPX.out) _ hb).g _ rfl rfl)
                  exact AllReady.nil
                exact AllReady.nil
              refine AllReady.cons rfl (fun K hK => ?_) ?_
              · go_simp
                refine hK _ _ ?_
                clear hK K
                refine wpAny_ready (rs := [1, 3]) (by kernel_rfl) (by simp) ?_
                refine AllReady.cons rfl (fun K hK => ?_) ?_
                · go_simp
                  refine hK _ _ ?_
                  clear hK K
                  refine wpAny_ready (rs := [3]) (by kernel_rfl) (by simp) ?_
                  refine AllReady.cons rfl (fun K hK => ?_) ?_
                  · go_simp
                    go_wp2_with (go_at_call 61; refine (HN.out).mono ?_; rintro E w4 ⟨rfl, hb⟩; exact get_panic (getR_bad HSZ.out HX.out) ((HPX.out) _ hb).g _ rfl rfl)
                  exact AllReady.nil
                refine AllReady.cons rfl (fun K hK => ?_) ?_
                · go_simp
                  go_wp2_with (go_at_call 61; refine (HN.out).mono ?_; rintro E w4 ⟨rfl, hb⟩; exact get_panic (getR_bad HSZ.out HX.out) ((HPX.out) _ hb).g _ rfl rfl)
                exact AllReady.nil
              exact AllReady.nil
            refine AllReady.cons rfl (fun K hK => ?_) ?_
            · go_simp
              refine hK _ _ ?_
              clear hK K
              refine wpAny_ready (rs := [0, 3]) (by kernel_rfl) (by simp) ?_
              refine AllReady.cons rfl (fun K hK => ?_) ?_
              · go_simp
                refine hK _ _ ?_
                clear hK K
                refine wpAny_ready (rs := [1, 3]) (by kernel_rfl) (by simp) ?_
                refine AllReady.cons rfl (fun K hK => ?_) ?_
                · go_simp
                  refine hK _ _ ?_
                  clear hK K
                  refine wpAny_ready (rs := [3]) (by kernel_rfl) (by simp) ?_
                  refine AllReady.cons rfl (fun K hK => ?_) ?_
                  · go_simp
                    go_wp2_with (go_at_call 61; refine (HN.out).mono ?_; rintro E w4 ⟨rfl, hb⟩; exact get_panic (getR_bad HSZ.out HX.out) ((HPX.out) _ hb).g _ rfl rfl)
                  exact AllReady.nil
                refine AllReady.cons rfl (fun K hK => ?_) ?_
                · go_simp
                  go_wp2_with (go_at_call 61; refine (HN.out).mono ?_; rintro E w4 ⟨rfl, hb⟩; exact get_panic (getR_bad HSZ.out HX.out) ((HPX.out) _ hb).g _ rfl rfl)
                exact AllReady.nil
              refine AllReady.cons rfl (fun K hK => ?_) ?_
              · go_simp
                go_wp2_with (go_at_call 61; refine (HN.out).mono ?_; rintro E w4 ⟨rfl, hb⟩; exact get_panic (getR_bad HSZ.out HX.out) ((HPX.out) _ hb).g _ rfl rfl)
              exact AllReady.nil
            exact AllReady.nil
          | true =>
            have HQ4 := Aside0.mk q4
            refine wp_region_noPanic ?_
            have HN2 := Aside0.mk (show numE s1.data.toList = .returned (.int .i64 (valW s1)) by unfold numE; rw [show numOk s1.data.toList = true from q4]; rfl)
            rw [HN2.out] at HN
            have HPX := Aside0.mk (fun w4 (hb : Below wr.drew.heap.size wr.drew w4) => below_then (below_drew (Below.refl wr.heap.size wr)) (below_drew (Below.refl wr.heap.size wr)).size hb)
            have HLT := Aside0.mk hlt
            have hlen : (((wd.take i).map valW).length + 1) * 8 ≤ 140737488355328 := by rw [List.length_map, List.length_take]; have := HWL.out; omega
            have HLEN := Aside0.mk (show ((wd.take i).map valW).length = i by rw [List.length_map, List.length_take]; omega)
            have HTK := Aside0.mk (show (wd.take i).map valW ++ [valW s1] = (wd.take (i + 1)).map valW by
              rw [List.take_add_one, List.map_append]
              congr 1
              have e : wd[i]? = some s1 := by rw [← HS1.out]; simp [List.getD_eq_getElem?_getD, hlt]
              rw [e]; rfl)
            have HLE1 := Aside0.mk (show ((wd.take (i + 1)).map valW).length = i + 1 by rw [List.length_map, List.length_take]; omega)
            go_region_law (first
              | (go_simp; go_at_call 61; refine (HN.out).mono ?_; rintro E w4 ⟨rfl, hb⟩; have HB4 := Aside0.mk ((HPX.out) w4 hb); clear hb; have HG5 := Aside0.mk ((HG4.out).below HB4.out); have HR5 := Aside0.mk (Kd.R_below HR.out HB4.out); have HWB5 := Aside0.mk (blk_below HWB.out HB4.out); obtain ⟨m0, m1, m2, m3⟩ := (HG5.out).g.cells; have l0 := pw_cell_below (below_alloc (Below.refl w4.heap.size w4) (.cells #[.int .i64 (valW s1)] 3)) m0)
              | (refine Kd.R_append_step (Kd.int .i64) (w0 := w) (W := w4) w.heap.size (by simp [Region.wanted]) (.tmp 52) (.tmp 55) 22 3 (.int .i64 0) 8 rfl Tryz.underlying22 Q.info3 rfl (by decide) (by omega) (.slice A i c) ((wd.take i).map valW) (valW s1) [.int .i64 (valW s1)] (fun k => w.heap.size + 2 ≤ k) (fun _ => False) (by rfl) (by rfl) rfl (fun _ hk => hk.elim) (fun k hk => by have := blk_lt (HG5.out).l; have := (HG5.out).hbl; omega) HR5.out (HG5.out).g.hb (HG5.out).g.hb.size hlen ?_; intro v5 w5 ho5 hb5 hg5 hat5; rw [HTK.out] at ho5; (obtain ⟨A5, c5, e5⟩ := Kd.R_slice ho5); rw [HLE1.out] at e5; subst e5; have HR6 := Aside0.mk ho5; have HG6 := Aside0.mk ((HG5.out).app HR5.out (by decide) hb5 hg5); have HWB6 := Aside0.mk (blk_grown HWB5.out hg5 (fun hk => by obtain ⟨⟨cc, hcc⟩, _⟩ := ownBlock_typed HR5.out hk.symm; exact types_ne hcc HWB5.out (by decide) rfl)); clear ho5 hb5 hg5 hat5; obtain ⟨n0, n1, n2, n3⟩ := (HG6.out).g.cells; obtain ⟨g0, g1, g2, g3⟩ := (HG6.out).g.frozen)
              | fail)
            all_goals
              refine NoPanic.normal ?_
              go_wp2
              go_roundg (wd.length - (i + 1))
              case measure => have := HLT.out; omega
              case rel => exact ⟨i + 1, A5, c5, HLT.out, Nat.le_refl _, by rw [wr_id (x := (i : Int) + 1) (by omega) (by have := HLT.out; have := HWL.out; omega)]; rfl, ⟨(HG6.out).set0 _⟩, ⟨blk_far HWB6.out (by have := HBW.out; show bw ≠ w.heap.size; omega) _⟩, ⟨Kd.R_far HR6.out (p := ⟨w.heap.size, 0, none⟩) (fun k hk he => by have h0 : k = w.heap.size := he; omega) _⟩, ⟨fun j hj => by
                by_cases e : j = i
                · rw [e, HS1.out]; exact HQ4.out
                · exact HOK.out j (by omega)⟩⟩
        · obtain rfl : i = wd.length := by omega
          have HALL := Aside0.mk (show wd.all okW = true from List.all_eq_true.2 fun x hx => by
            obtain ⟨j, hj, hjx⟩ := List.mem_iff_getElem.1 hx
            have h1 := HOK.out j hj
            rw [List.getD_eq_getElem?_getD, List.getElem?_eq_getElem hj, hjx] at h1
            exact h1)
          rw [List.take_length] at HR
          clear hi hgg hlt HOK HWB HV4 HWZ
          have HN12 := Aside0.mk (Nat.lt_of_lt_of_le (show 1 < 3 by decide) HL3.out)
          have hk := strs_cell (HG4.out).l HN12.out
          have HS1Z := Aside0.mk (HCS.out 1)
          generalize hs1 : L.getD 1 ByteArray.empty = s1 at *
          have HS1 := Aside0.mk hs1
          have HWO := Aside0.mk (wordsB_calls s1 sStates wr (by have := HS1Z.out; have := HSZ.out; omega) ((HM.out).below (HG4.out).g.hb))
          clear hs1
          go_wp2_with fail
          refine (HWO.out).mono ?_
          rintro E w4 ⟨hb, ⟨hne, rfl⟩ | ⟨hhd, o2, rfl, ho, hws⟩⟩
          · have HN := Aside0.mk (HV5.out hne)
            have HG5 := Aside0.mk ((HG4.out).below hb)
            unfold pbad
            go_wp2
            exact get_panic (getR_bad HSZ.out HN.out) (HG5.out).g _ rfl rfl
          · have HG5 := Aside0.mk ((HG4.out).below hb)
            have HR5 := Aside0.mk (Kd.R_below HR.out hb)
            have HWS2 := Aside0.mk hws
            have HO2 := Aside0.mk ho
            have HHD2 := Aside0.mk hhd
            have HBW2 := Aside0.mk (show w.heap.size + 2 ≤ wr.heap.size from by have := blk_lt (HG4.out).l; have := (HG4.out).hbl; omega)
            have HWZ2 := Aside0.mk (show ∀ i, ((chunks s1 32).getD i ByteArray.empty).size ≤ 65536 from fun i => by have := chunk_size s1 32 i; have := HS1Z.out; have := HSZ.out; omega)
            clear hb hws ho hhd hk HG4 HR HWO HN12
            generalize wr.heap.size = bw2 at *
            generalize hws0 : chunks s1 32 = ws2 at *
            have HWS20 := Aside0.mk hws0
            clear hws0
            by_cases h3 : (ws2.drop 1).length = 3
            · obtain ⟨p, x1, x2, x3, rfl⟩ : ∃ p x1 x2 x3, ws2 = [p, x1, x2, x3] := by
                rw [List.length_drop] at h3
                match ws2, h3 with
                | [p, x1, x2, x3], _ => exact ⟨p, x1, x2, x3, rfl⟩
              obtain rfl : o2 = 1 := by have := HO2.out; simp at this; exact this
              have z1 : w4.cell? ⟨bw2, 1, none⟩ = some (.string x1) := (blk_cell HWS2.out 1).trans rfl
              have z2 : w4.cell? ⟨bw2, 2, none⟩ = some (.string x2) := (blk_cell HWS2.out 2).trans rfl
              have z3 : w4.cell? ⟨bw2, 3, none⟩ = some (.string x3) := (blk_cell HWS2.out 3).trans rfl
              have HX1Z := Aside0.mk (HWZ2.out 1)
              have HX3Z := Aside0.mk (HWZ2.out 3)
              have HSEC := Aside0.mk (show (secOk [x1, x2, x3] = false → getV t = none) from HV6.out)
              have HCE := Aside0.mk (show ∀ b : Bool, (x2.toList == [115, 116, 97, 114, 116]) = b → decide (x2 = sStart) = b from fun b hb => by
                have e : sStart.toList = [115, 116, 97, 114, 116] := by rw [Lib.toList_data]; rfl
                cases b with
                | true => exact decide_eq_true (string_inj (by rw [e]; exact hb))
                | false => exact decide_eq_false (string_ne (by rw [e]; exact hb)))
              cases q5 : (x2.toList == [115, 116, 97, 114, 116]) with
              | false =>
                have HN := Aside0.mk (HSEC.out (by show (decide (x2 = sStart) && okW x1 && okW x3) = false; rw [HCE.out _ q5]; rfl))
                go_wp2
                exact get_panic (getR_bad HSZ.out HN.out) (HG5.out).g _ rfl rfl
              | true =>
                have HX2 := Aside0.mk (HCE.out _ q5)
                have HN1 := Aside0.mk (number_calls x1 w4 (by have : x1.size ≤ 65536 := HX1Z.out; omega))
                go_wp2_with fail
                refine (HN1.out).mono ?_
                rintro E w5 ⟨rfl, hb⟩
                have HG6 := Aside0.mk ((HG5.out).below hb)
                have HR6 := Aside0.mk (Kd.R_below HR5.out hb)
                have HWS6 := Aside0.mk (blk_below HWS2.out hb)
                clear hb HG5 HR5 HWS2 z1 z2 z3 HN1 q5
                cases q6 : okW x1 with
                | false =>
                  have HN := Aside0.mk (HSEC.out (by show (decide (x2 = sStart) && okW x1 && okW x3) = false; rw [q6, HX2.out]; rfl))
                  rw [show numE x1.data.toList = pbad by unfold numE; rw [show numOk x1.data.toList = false from q6]; rfl]
                  unfold pbad
                  go_wp2
                  exact get_panic (getR_bad HSZ.out HN.out) (HG6.out).g _ rfl rfl
                | true =>
                rw [show numE x1.data.toList = .returned (.int .i64 (valW x1)) by unfold numE; rw [show numOk x1.data.toList = true from q6]; rfl]
                have HX1 := Aside0.mk q6
                have HN3 := Aside0.mk (number_calls x3 w5 (by have : x3.size ≤ 65536 := HX3Z.out; omega))
                have z3 : w5.cell? ⟨bw2, 3, none⟩ = some (.string x3) := (blk_cell HWS6.out 3).trans rfl
                clear q6
                go_wp2_with fail
                refine (HN3.out).mono ?_
                rintro E w6 ⟨rfl, hb⟩
                have HG7 := Aside0.mk ((HG6.out).below hb)
                have HR7 := Aside0.mk (Kd.R_below HR6.out hb)
                clear hb HG6 HR6 HWS6 z3 HN3
                cases q7 : okW x3 with
                | false =>
                  have HN := Aside0.mk (HSEC.out (by show (decide (x2 = sStart) && okW x1 && okW x3) = false; rw [q7, HX1.out, HX2.out]; rfl))
                  rw [show numE x3.data.toList = pbad by unfold numE; rw [show numOk x3.data.toList = false from q7]; rfl]
                  unfold pbad
                  go_wp2
                  exact get_panic (getR_bad HSZ.out HN.out) (HG7.out).g _ rfl rfl
                | true =>
                rw [show numE x3.data.toList = .returned (.int .i64 (valW x3)) by unfold numE; rw [show numOk x3.data.toList = true from q7]; rfl]
                have HX3 := Aside0.mk q7
                clear q7
                obtain ⟨k0, k1, k2, k3⟩ := (HG7.out).g.cells
                obtain ⟨f0, f1, f2, f3⟩ := (HG7.out).g.frozen
                go_upto_region 17 with (fail)
                have HG8 := Aside0.mk ((HG7.out).set1 (.int .i64 (valW x3)))
                have HR8 := Aside0.mk (Kd.R_far HR7.out (p := ⟨w.heap.size, 1, none⟩) (fun k hk he => by have h0 : k = w.heap.size := he; omega) (.int .i64 (valW x3)))
                generalize w6.setCell ⟨w.heap.size, 1, none⟩ (.int .i64 (valW x3)) = w7 at *
                clear HG7 HR7 k0 k1 k2 k3 f0 f1 f2 f3 HX1Z HX3Z HSEC HCE HV6 HWZ2
                have HST := Aside0.mk (num_nonneg HX1.out)
                generalize hst : valW x1 = states at *
                have HSTE := Aside0.mk hst
                clear hst
                have HV := Aside0.mk (getV_main hLL HL3.out (HLEE.out.trans HLEM.out) HS0.out HWS0.out HHD.out HWD.out HALL.out HS1.out HWS20.out HHD2.out (of_decide_eq_true HX2.out) HX1.out HX3.out)
                rw [HSTE.out] at HV
                clear HV1 HV3 HV5 HLE HLEE HLEM HS0 HS0Z HHD HWS0 HALL HS1Z HS1 HHD2 HWS20 HX2 HX3 HO2 HBW HBW2 hLL
                obtain ⟨N, hN⟩ : ∃ N : Nat, (if states < 7 then states else 7) = (N : Int) := ⟨(if states < 7 then states else 7).toNat, by have := HST.out; split <;> omega⟩
                have HN7 := Aside0.mk (show N ≤ 7 ∧ N = (min states 7).toNat from by split at hN <;> omega)
                have hmk : ∀ W : World, (Instr.makeSlice 65 (.int .i64 (wd.length : Int)) (.int .i64 (wd.length : Int))).run Tryz.prog W = .ok (.slice (some ⟨W.heap.size, 0, none⟩) wd.length wd.length) (W.alloc (.cells (madeCells #[.slice none 0 0] wd.length) 66)) := fun W => run_make_row' 65 66 (.slice none 0 0) 24 Tryz.underlying65 Q.info66 rfl .i64 .i64 wd.length (by have := HWL.out; omega) (by have := HWL.out; omega) W
                have hmin : min states 7 = (N : Int) := by have := (HN7.out).2; have := HST.out; omega
                go_wp2
                clear hmin
                go_loopg [85] N (fun gg v85 wi => ∃ (j : Nat) (A2 : Option Addr) (c2 : Nat) (gs : List Nat) (u : Nat → Nat → Value), j ≤ N ∧ N - j ≤ gg ∧ v85 = .int .i64 j ∧ Aside0 (GL w wi (.slice A wd.length c) (.int .i64 (valW x3)) (.slice A2 j c2) bl L) ∧ Aside0 (Kd.R (Kd.int .i64) 3 wi w.heap.size (fun k => w.heap.size + 2 ≤ k) (.slice A wd.length c) (wd.map valW)) ∧ Aside0 (MM w.heap.size (w.heap.size + 2) wi (.slice A2 j c2) (List.replicate j (List.replicate wd.length [])) wd.length gs u))
                case atStart => exact ⟨0, none, 0, [], _, Nat.zero_le _, Nat.le_refl _, rfl, HG8, HR8, ⟨MM.start _ _ _ _⟩⟩
                case round =>
                  clear HG8 HR8
                  obtain ⟨j, A2, c2, gs, u, hj, hgg, rfl, HG9, HR9, HMM⟩ := hrel
                  by_cases hlt : j < N
                  · have hltz : (j : Int) < (N : Int) := by omega
                    have HLT := Aside0.mk hlt
                    go_upto_region 19 with (fail)
                    obtain ⟨k0, k1, k2, k3⟩ := (HG9.out).g.cells
                    have hb1 := below_drew (Below.refl wr.heap.size wr)
                    have hb2 := below_alloc hb1 (.cells (madeCells #[.slice none 0 0] wd.length) 66)
                    have hnew := blk_new wr.drew (.cells (madeCells #[.slice none 0 0] wd.length) 66)
                    have m0 := pw_cell_below hb2 k0
                    have m2 := pw_cell_below hb2 k2
                    have HGA := Aside0.mk ((HG9.out).below hb2)
                    have HRA := Aside0.mk (Kd.R_below HR9.out hb2)
                    have HMA := Aside0.mk ((HMM.out).below hb2)
                    have q0_ := pw_cell_below (below_alloc (Below.refl wr.heap.size wr) (.cells (madeCells #[.slice none 0 0] wd.length) 66)) k0
                    have q2_ := pw_cell_below (below_alloc (Below.refl wr.heap.size wr) (.cells (madeCells #[.slice none 0 0] wd.length) 66)) k2
                    have l0 := pw_cell_below (below_alloc (Below.refl (wr.alloc (.cells (madeCells #[.slice none 0 0] wd.length) 66)).heap.size (wr.alloc (.cells (madeCells #[.slice none 0 0] wd.length) 66))) (.cells #[.slice (some ⟨wr.heap.size, 0, none⟩) wd.length wd.length] 65)) q0_
                    have l2 := pw_cell_below (below_alloc (Below.refl (wr.alloc (.cells (madeCells #[.slice none 0 0] wd.length) 66)).heap.size (wr.alloc (.cells (madeCells #[.slice none 0 0] wd.length) 66))) (.cells #[.slice (some ⟨wr.heap.size, 0, none⟩) wd.length wd.length] 65)) q2_
                    have HNEW := Aside0.mk (show (wr.drew.alloc (.cells (madeCells #[.slice none 0 0] wd.length) 66)).heap[wr.heap.size]? = some (.cells (Array.replicate wd.length (.slice none 0 0)) 66 (0, 0)) from by rw [← made_rep]; exact hnew)
                    have HGSL := Aside0.mk (show gs.length = j by rw [(HMM.out).len]; simp)
                    have HGLT := Aside0.mk (show ∀ q, q < (List.replicate j (List.replicate wd.length ([] : List (List Nd)))).length → gs.getD q 0 ≠ wr.heap.size from fun q hq => by have := blk_lt ((HMM.out).rows q hq).2.1; omega)
                    have HB2 := Aside0.mk (show w.heap.size + 2 ≤ wr.heap.size from by have := blk_lt (HG9.out).l; have := (HG9.out).hbl; omega)
                    clear hb1 hb2 hnew
                    refine wp_region_noPanic ?_
                    go_region_law (first
                      | (refine Kd.R_append_step (kRow wd.length) (w0 := w) (W := wr.drew.alloc (.cells (madeCells #[.slice none 0 0] wd.length) 66)) w.heap.size (by simp [Region.wanted]) (.tmp 88) (.tmp 93) 23 65 (.slice none 0 0) 24 rfl Tryz.underlying23 Q.info65 rfl (show 0 < 1 by decide) (by decide) (.slice A2 j c2) gs wr.heap.size [.slice (some ⟨wr.heap.size, 0, none⟩) wd.length wd.length] (fun k => w.heap.size + 2 ≤ k) (fun _ => False) (by rfl) (by show Value.slice (some ⟨wr.heap.size + 1, 0, none⟩) 1 1 = _; simp) rfl (fun _ hk => hk.elim) (fun k hk => by have := blk_lt (HGA.out).l; have := (HGA.out).hbl; omega) (HMA.out).row (HGA.out).g.hb (HGA.out).g.hb.size (by rw [HGSL.out]; have := (HN7.out).1; have := HLT.out; omega) ?_; intro v5 w5 ho5 hb5 hg5 hat5; have HMP := Aside0.mk ((HMA.out).push wr.heap.size HNEW.out HB2.out HGLT.out ho5 hg5); (obtain ⟨A5, c5, e5⟩ := Kd.R_slice ho5); rw [List.length_append, HGSL.out, List.length_singleton] at e5; subst e5; have HGP := Aside0.mk ((HGA.out).app (HMA.out).row (by decide) hb5 hg5); have HRP := Aside0.mk (R_grown9 HRA.out (HMA.out).row (by decide) (fun _ h => by cases h) hg5); clear ho5 hb5 hg5 hat5; obtain ⟨n0, n1, n2, n3⟩ := (HGP.out).g.cells; obtain ⟨g0, g1, g2, g3⟩ := (HGP.out).g.frozen)
                      | fail)
                    all_goals
                      refine NoPanic.normal ?_
                      go_wp2
                      go_roundg (N - (j + 1))
                      case measure => have := HLT.out; omega
                      case rel => exact ⟨j + 1, A5, c5, gs ++ [wr.heap.size], _, HLT.out, Nat.le_refl _, rfl, ⟨(HGP.out).set2 _⟩, ⟨Kd.R_far HRP.out (p := ⟨w.heap.size, 2, none⟩) (fun k hk he => by have h0 : k = w.heap.size := he; omega) _⟩, ⟨by rw [List.replicate_succ']; exact (HMP.out).far (by omega) _⟩⟩
                  · obtain rfl : N = j := by omega
                    clear hlt hj hgg hmk
                    rw [← (HN7.out).2] at HV
                    have hl3 := HL3.out
                    obtain ⟨n, hn⟩ : ∃ n, L.length = n + 3 := ⟨L.length - 3, by omega⟩
                    have HNL := Aside0.mk hn
                    have HLN := Aside0.mk (show n ≤ 65536 from by have := HLS.out; omega)
                    go_upto_region 22 with (fail)
                    rw [hn]
                    have hz1 : wrap64 ((n : Int) + 3 - 1) = (n : Int) + 2 := by rw [wr_id (by omega) (by have := HLN.out; omega)]; omega
                    have hz2 : (0 : Int) ≤ (n : Int) + 2 ∧ (n : Int) + 2 ≤ (n : Int) + 3 := by omega
                    have hz3 : max ((n : Int) + 2) 0 = (n : Int) + 2 := by omega
                    have hz4 : (2 : Int) ≤ (n : Int) + 2 := by omega
                    have hz5 : ((n : Int) + 2).toNat = n + 2 := by omega
                    go_wp2
                    have HV2 := Aside0.mk (show getV t = (gstep states wd.length ((L.drop 2).take n) (-1) (List.replicate N (List.replicate wd.length []))).map fun M => (wd.map valW, valW x3, M) from by have h0 := HV.out; rw [HNL.out] at h0; exact h0)
                    refine loop26 t w L wd n N bl _ A c A2 c2 (valW x3) states _ _ (List.replicate N (List.replicate wd.length [])) gs u _ _ _ _ _ _ _ _ _ _ _ _ _ _ _ _ _ _ _ _ _ _ _ _ _ _ _ _ _ _ _ _ _ _ _ _ _ _ _ _ _ _ _ _ _ _ _ _ _ _ _ _ _ _ _ _ _ _ _ _ _ _ _ _ _ _ _ _ _ _ _ _ _ _ _ _ _ _ _ _ _ _ _ _ _ _ _ _ _ _ _ _ _ _ _ _ _ _ _ _ _ _ _ _ _ _ _ _ _ _ _ _ _ _ _ _ _ _ _ _ _ _ _ _ _ _ _ _ _ _ _ _ _ _ _ _ _ _ _ _ _ _ _ _ _ _ _ _ _ _ _ _ _ _ _ _ _ _ _ _ _ _ _ _ _ _ _ _ _ _ _ _ _ _ _ _ _ _ _ _ _ _ _ _ _ HSZ HM HCS HWL HNL HLN HN7 HST ⟨List.length_replicate⟩ ⟨fun a b => by simp [List.getD_eq_getElem?_getD, List.getElem?_replicate]; split <;> simp [List.getElem?_replicate]; split <;> simp⟩ HG9 HR9 HMM HV2 ?_
                    clear HG9 HR9 HMM HV2 HV hz1 hz2 hz3 hz4 hz5
                    refine ⟨?_⟩
                    intro u9 u11 u12 u13 u14 u15 u16 u17 u18 u19 u20 u103 u104 u105 u106 u107 u108 u109 u110 u111 u112 u113 u114 u115 u116 u117 u118 u119 u120 u121 u122 u123 u124 u125 u126 u127 u128 u129 u130 u131 u132 u133 u134 u135 u136 u137 u138 u139 u140 u141 u142 u143 u144 u145 u146 u147 u148 u149 u150 u151 u152 u153 u154 u155 u156 u157 u158 u159 u160 u161 u162 u163 u164 u165 u166 u167 u168 u169 u170 u171 u172 u173 u174 u175 u176 u177 u178 u179 u180 u181 u182 u183 u184 u185 u186 W M gs uu hG hR hM hL hVV
                    have HG := Aside0.mk hG
                    have hrd := Kd.R_reads' hR
                    obtain ⟨A2', c2', e, hle, hCM⟩ := hM.reads (by have := HWL.out; omega)
                    injection e with e1 e2 e3
                    subst e1 e3
                    have HCK := Aside0.mk (acheckG_calls (wd.map valW) M (valW x3) A c A2 c2 W hrd.2.2 (by rw [List.length_map]; exact hrd.2.1) hCM)
                    have HR := Aside0.mk hR
                    have HMM := Aside0.mk hM
                    have HL := Aside0.mk hL
                    have HVV := Aside0.mk hVV
                    rw [List.length_map, hL] at HCK
                    obtain ⟨k0, k1, k2, k3⟩ := hG.g.cells
                    clear e2 hG hR hM hrd hle hCM hL hVV
                    cases hq : auB (wd.map valW) (valW x3) M with
                    | false =>
                      rw [chk_false hq] at HCK
                      have HRR := Aside0.mk (show getR t = (10, [], 0, []) by unfold getR; rw [if_neg (by have := HSZ.out; omega), HVV.out]; simp only; rw [if_neg (by rw [chk_false hq]; decide)])
                      clear hq
                      go_wp2_with fail
                      refine (HCK.out).mono ?_
                      rintro E W2 ⟨rfl, hb⟩
                      have HG2 := Aside0.mk ((HG.out).below hb)
                      clear hb k0 k1 k2 k3
                      obtain ⟨k0, k1, k2, k3⟩ := (HG2.out).g.cells
                      obtain ⟨f0, f1, f2, f3⟩ := (HG2.out).g.frozen
                      have HQ := Aside0.mk ((((HG2.out).g.set0 (.slice none 0 0)).set1 (.int .i64 0)).set2 (.slice none 0 0))
                      go_wp2
                      exact get_done (A1 := none) (A2 := none) (c1 := 0) (c2 := 0) (rk := []) (M := []) HRR.out ((HQ.out).hb.setCell (p := ⟨w.heap.size + 1, 0, none⟩) (Nat.le_succ _) _) (blk_far (HQ.out).ha (by show w.heap.size ≠ w.heap.size + 1; omega) _) (blk_set (HQ.out).he 0 _) ⟨rfl, by simp, fun h => absurd h (by simp)⟩ (Nat.le_refl _) ⟨rfl, by simp, fun h => absurd h (by simp)⟩ (Nat.le_refl _) _ rfl rfl
                    | true =>
                      rw [chk_true hq] at HCK
                      have HRR := Aside0.mk (show getR t = (0, wd.map valW, valW x3, M) by unfold getR; rw [if_neg (by have := HSZ.out; omega), HVV.out]; simp only; rw [if_pos (chk_true hq)])
                      clear hq
                      go_wp2_with fail
                      refine (HCK.out).mono ?_
                      rintro E W2 ⟨rfl, hb⟩
                      have HG2 := Aside0.mk ((HG.out).below hb)
                      have HR2 := Aside0.mk (Kd.R_below HR.out hb)
                      have HM2 := Aside0.mk ((HMM.out).below hb)
                      clear hb k0 k1 k2 k3
                      obtain ⟨k0, k1, k2, k3⟩ := (HG2.out).g.cells
                      obtain ⟨f0, f1, f2, f3⟩ := (HG2.out).g.frozen
                      have HQ := Aside0.mk ((((HG2.out).g.set0 (.slice A wd.length c)).set1 (.int .i64 (valW x3))).set2 (.slice A2 N c2))
                      have HR3 := Aside0.mk (fun (a : Nat) (ha : a < w.heap.size + 2) (o : Nat) (y : Value) (W3 : World) (h3 : Kd.R (Kd.int .i64) 3 W3 w.heap.size (fun k => w.heap.size + 2 ≤ k) (.slice A wd.length c) (wd.map valW)) => Kd.R_far h3 (p := ⟨a, o, none⟩) (fun k hk he => by have h0 : k = a := he; omega) y)
                      have HM3 := Aside0.mk (fun (a : Nat) (ha : a < w.heap.size + 2) (o : Nat) (y : Value) (W3 : World) (h3 : MM w.heap.size (w.heap.size + 2) W3 (.slice A2 N c2) M wd.length gs uu) => h3.far (a := a) (j := o) ha y)
                      go_wp2
                      have hr := Kd.R_reads' (HR3.out (w.heap.size + 1) (by omega) 0 (.int .i64 0) _ (HR3.out w.heap.size (by omega) 2 (.slice A2 N c2) _ (HR3.out w.heap.size (by omega) 1 (.int .i64 (valW x3)) _ (HR3.out w.heap.size (by omega) 0 (.slice A wd.length c) _ HR2.out))))
                      have hm := HM3.out (w.heap.size + 1) (by omega) 0 (.int .i64 0) _ (HM3.out w.heap.size (by omega) 2 (.slice A2 N c2) _ (HM3.out w.heap.size (by omega) 1 (.int .i64 (valW x3)) _ (HM3.out w.heap.size (by omega) 0 (.slice A wd.length c) _ HM2.out)))
                      obtain ⟨A2', c2', e, hle, hCM⟩ := hm.reads (by have := HWL.out; omega)
                      injection e with e1 e2 e3
                      subst e1 e3
                      exact get_done (A1 := A) (A2 := A2) (c1 := c) (c2 := c2) (rk := wd.map valW) (M := M) HRR.out ((HQ.out).hb.setCell (p := ⟨w.heap.size + 1, 0, none⟩) (Nat.le_succ _) _) (by rw [List.length_map, HL.out]; exact blk_far (HQ.out).ha (by show w.heap.size ≠ w.heap.size + 1; omega) _) (blk_set (HQ.out).he 0 _) hr.2.2 (by rw [List.length_map]; exact hr.2.1) hCM hle _ rfl rfl
            · have h3z : ¬ (((ws2.drop 1).length : Int) = 3) := by omega
              have HN := Aside0.mk (HV6.out (by
                unfold secOk
                split
                · rename_i h; rw [h] at h3; exact absurd rfl h3
                · rfl))
              generalize (ws2.drop 1).length = nn at *
              go_wp2
              exact get_panic (getR_bad HSZ.out HN.out) (HG5.out).g _ rfl rfl
end Go.Proofs.YtbmcigakiibncaaGreatDoor.H
namespace Go.Proofs.YtbmcigakiibncaaGreatDoor.H
open Go.RowKit Go.Proofs.YtbmcigakiibncaaGreatDoorW.PrintWords Go.Proofs.YtbmcigakiibncaaGreatDoorW.PrintLast Go.Proofs.YtbmcigakiibncaaGreatDoorW.PrintMore
open Go.Proofs.YtbmcigakiibncaaGreatDoor.Q (S28 k28)
set_option linter.unusedVariables false
set_option linter.unusedSimpArgs false
def exT : ByteArray := ⟨#[114, 97, 110, 107, 115, 32, 50, 32, 49, 32, 48, 10, 115, 116, 97, 116, 101, 115, 32, 49, 32, 115, 116, 97, 114, 116, 32, 48, 10, 48, 32, 48, 58, 32, 48, 46, 48, 32, 49, 46, 48, 10, 48, 32, 50, 58, 10]⟩
def rk0 : List Int := [2, 1, 0]
def M0 : Mv := [[[[⟨0, 0⟩, ⟨1, 0⟩]], [], [[]]]]
def D0 : Mv := [[[[⟨0, 0⟩], [⟨1, 0⟩]], [[]], []]]
def c0T : S28 := ⟨2, []⟩
def b0T : S28 := ⟨1, [⟨2, []⟩]⟩
def exD : List UInt8 := [114, 97, 110, 107, 115, 32, 50, 32, 49, 32, 48, 10, 115, 116, 97, 116, 101, 115, 32, 49, 32, 115, 116, 97, 114, 116, 32, 48, 10, 48, 32, 48, 58, 32, 48, 46, 48, 10, 48, 32, 48, 58, 32, 49, 46, 48, 10, 48, 32, 49, 58, 10]
theorem ex_get : getR exT = (0, rk0, 0, M0) := by kernel_rfl
theorem ex_dual : dualR rk0 0 M0 = (0, rk0, 0, D0) := by kernel_rfl
theorem ex_put : putR rk0 0 D0 = (exD, 0) := by kernel_rfl
theorem ex_is1 : isV rk0 0 M0 0 c0T = true ∧ stErr rk0 0 M0 0 c0T = 0 := ⟨by kernel_rfl, by kernel_rfl⟩
theorem ex_is2 : isV rk0 0 M0 0 b0T = false ∧ stErr rk0 0 M0 0 b0T = 0 := ⟨by kernel_rfl, by kernel_rfl⟩
theorem ex_is3 : isV rk0 0 D0 1 b0T = true ∧ stErr rk0 0 D0 1 b0T = 0 := ⟨by kernel_rfl, by kernel_rfl⟩
theorem get0_calls (w : World) (hm : MX w) : Calls Tryz.prog 26 #[.string exT] w fun E w' => ∃ A1 c1 A2 c2, E = .returned (.tuple #[.agg #[.slice A1 rk0.length c1, .int .i64 0, .slice A2 M0.length c2], .int .i64 0]) ∧ Kd.C (Kd.int .i64) w' A1 rk0.length rk0 ∧ rk0.length ≤ c1 ∧ Kd.C kA3 w' A2 M0.length M0 ∧ Below w.heap.size w w' := by
  refine (get_calls exT w hm).mono ?_
  intro E w' h
  unfold GetE at h
  rw [ex_get] at h
  obtain ⟨A1, c1, A2, c2, rfl, h1, h2, h3, h4, h5⟩ := h
  exact ⟨A1, c1, A2, c2, rfl, h1, h2, h3, h5⟩
theorem dual0_calls (A1 : Option Addr) (c1 : Nat) (A2 : Option Addr) (c2 : Nat) (w : World) (hr : Kd.C (Kd.int .i64) w A1 rk0.length rk0) (hc1 : rk0.length ≤ c1) (hM : Kd.C kA3 w A2 M0.length M0) (ht : TabD w) :
    Calls Tryz.prog 21 #[.agg #[.slice A1 rk0.length c1, .int .i64 0, .slice A2 M0.length c2]] w fun E w' => ∃ A1 c1 A2 c2, E = .returned (.tuple #[.agg #[.slice A1 rk0.length c1, .int .i64 0, .slice A2 D0.length c2], .int .i64 0]) ∧ Kd.C (Kd.int .i64) w' A1 rk0.length rk0 ∧ rk0.length ≤ c1 ∧ Kd.C kA3 w' A2 D0.length D0 ∧ Below w.heap.size w w' := by
  refine (adual_calls rk0 M0 0 A1 c1 A2 c2 w hr hc1 hM ht).mono ?_
  intro E w' h
  unfold DualRE at h
  rw [ex_dual] at h
  obtain ⟨v1, v2, rfl, h1, h2, h3⟩ := h
  obtain ⟨A3, c3, rfl⟩ := Kd.R_slice h1
  obtain ⟨A4, c4, rfl⟩ := Kd.R_slice h2
  have r1 := Kd.R_reads' h1
  have r2 := Kd.R_reads' h2
  exact ⟨A3, c3, A4, c4, rfl, r1.2.2, r1.2.1, r2.2.2, h3⟩
theorem C_nilT (w : World) : Kd.C k28 w none 0 [] := ⟨rfl, by simp, fun h => absurd h (by simp)⟩
theorem C_oneT {w : World} {g : Nat} {f0 : Int} (h : w.heap[g]? = some (.cells #[.int .i64 f0, .slice none 0 0] 28 (0, 0))) : Kd.C k28 w (some ⟨g, 0, none⟩) 1 [⟨f0, []⟩] := by
  refine ⟨rfl, by simp, fun _ => ⟨_, rfl, fun j p hj => ?_⟩⟩
  have hj0 : j = 0 := by
    have := (List.getElem?_eq_some_iff.1 hj).1
    simpa using this
  subst hj0
  obtain rfl : (⟨f0, []⟩ : S28) = p := by simpa using hj
  refine ⟨[.int .i64 f0, .slice none 0 0], rfl, Q.k28_mk w ⟨f0, []⟩ (A1 := none) (c1 := 0) (Nat.le_refl _) (C_nilT w), fun i u hu => ?_⟩
  rw [show (Addr.add ⟨g, 0, none⟩ (0 * k28.sz + i)) = ⟨g, i, none⟩ by rw [Nat.zero_mul, Nat.zero_add]; simp [Addr.add]; exact fun e => e.symm, blk_cell h i]
  match i, hu with
  | 0, hu => simpa using hu
  | 1, hu => simpa using hu
  | i + 2, hu => simp at hu
theorem box3_of {W : World} {b : Nat} {x y z : Value} (h : W.heap[b]? = some (.cells #[x, y, z] 25 (0, 0))) : W.cell? ⟨b, 0, none⟩ = some x ∧ W.cell? ⟨b, 1, none⟩ = some y ∧ W.cell? ⟨b, 2, none⟩ = some z := ⟨(blk_cell h 0).trans rfl, (blk_cell h 1).trans rfl, (blk_cell h 2).trans rfl⟩
theorem box2_of {W : World} {b : Nat} {x y : Value} (h : W.heap[b]? = some (.cells #[x, y] 28 (0, 0))) : W.cell? ⟨b, 0, none⟩ = some x ∧ W.cell? ⟨b, 1, none⟩ = some y := ⟨(blk_cell h 0).trans rfl, (blk_cell h 1).trans rfl⟩
theorem exD_list : (⟨exD.toArray⟩ : ByteArray).toList = exD := by rw [Lib.toList_data]
theorem is1_calls (A1 : Option Addr) (c1 : Nat) (A2 : Option Addr) (c2 : Nat) (w : World) (hr : Kd.C (Kd.int .i64) w A1 rk0.length rk0) (hc1 : rk0.length ≤ c1) (hM : Kd.C kA3 w A2 M0.length M0) (hT : Tab w) :
    Calls Tryz.prog 15 #[.agg #[.slice A1 rk0.length c1, .int .i64 0, .slice A2 M0.length c2], .int .i64 0, .agg #[.int .i64 2, .slice none 0 0]] w fun E w' => E = .returned (.tuple #[.bool true, .int .i64 0]) ∧ Below w.heap.size w w' := by
  have h := aisG_calls rk0 M0 0 0 c0T A1 c1 A2 c2 none 0 w hr hc1 hM (C_nilT w) (Nat.le_refl _) hT
  rw [ex_is1.1, ex_is1.2] at h
  exact h
theorem is2_calls (A1 : Option Addr) (c1 : Nat) (A2 : Option Addr) (c2 : Nat) (g : Nat) (w : World) (hr : Kd.C (Kd.int .i64) w A1 rk0.length rk0) (hc1 : rk0.length ≤ c1) (hM : Kd.C kA3 w A2 M0.length M0) (hg : w.heap[g]? = some (.cells #[.int .i64 2, .slice none 0 0] 28 (0, 0))) (hT : Tab w) :
    Calls Tryz.prog 15 #[.agg #[.slice A1 rk0.length c1, .int .i64 0, .slice A2 M0.length c2], .int .i64 0, .agg #[.int .i64 1, .slice (some ⟨g, 0, none⟩) 1 1]] w fun E w' => E = .returned (.tuple #[.bool false, .int .i64 0]) ∧ Below w.heap.size w w' := by
  have h := aisG_calls rk0 M0 0 0 b0T A1 c1 A2 c2 (some ⟨g, 0, none⟩) 1 w hr hc1 hM (C_oneT hg) (Nat.le_refl _) hT
  rw [ex_is2.1, ex_is2.2] at h
  exact h
theorem is3_calls (A1 : Option Addr) (c1 : Nat) (A2 : Option Addr) (c2 : Nat) (g : Nat) (w : World) (hr : Kd.C (Kd.int .i64) w A1 rk0.length rk0) (hc1 : rk0.length ≤ c1) (hM : Kd.C kA3 w A2 D0.length D0) (hg : w.heap[g]? = some (.cells #[.int .i64 2, .slice none 0 0] 28 (0, 0))) (hT : Tab w) :
    Calls Tryz.prog 15 #[.agg #[.slice A1 rk0.length c1, .int .i64 0, .slice A2 D0.length c2], .int .i64 1, .agg #[.int .i64 1, .slice (some ⟨g, 0, none⟩) 1 1]] w fun E w' => E = .returned (.tuple #[.bool true, .int .i64 0]) ∧ Below w.heap.size w w' := by
  have h := aisG_calls rk0 D0 0 1 b0T A1 c1 A2 c2 (some ⟨g, 0, none⟩) 1 w hr hc1 hM (C_oneT hg) (Nat.le_refl _) hT
  rw [ex_is3.1, ex_is3.2] at h
  exact h
theorem put0_calls (A1 : Option Addr) (c1 : Nat) (A2 : Option Addr) (c2 : Nat) (w : World) (hr : Kd.C (Kd.int .i64) w A1 rk0.length rk0) (hc1 : rk0.length ≤ c1) (hM : Kd.C kA3 w A2 D0.length D0) :
    Calls Tryz.prog 24 #[.agg #[.slice A1 rk0.length c1, .int .i64 0, .slice A2 D0.length c2]] w fun E w' => E = .returned (.tuple #[.string ⟨exD.toArray⟩, .int .i64 0]) ∧ Below w.heap.size w w' := by
  refine (put_calls rk0 D0 0 A1 c1 A2 c2 w hr hc1 hM).mono ?_
  intro E w' h
  unfold PutE at h
  rw [ex_put] at h
  exact h
set_option maxHeartbeats 16000000 in
set_option maxRecDepth 100000 in
theorem alive_calls (w : World) (hm : MX w) (ht : TabD w) : Calls Tryz.prog 18 #[] w fun E w' => E = .returned (.bool true) ∧ Below w.heap.size w w' := by
  have HG := Aside0.mk (get0_calls w hm)
  have HT := Aside0.mk ht
  unfold exT at HG
  clear hm ht
  go_enter Tryz.func18, Tryz.ntmps18
  go_wp2_with fail
  refine (HG.out).mono ?_
  rintro E W1 ⟨A1, c1, A2, c2, rfl, hr1, hc1, hM1, hb1⟩
  have HB1 := Aside0.mk hb1
  have HR1 := Aside0.mk hr1
  have HC1 := Aside0.mk hc1
  have HM1 := Aside0.mk hM1
  have hba := below_alloc (Below.refl W1.heap.size W1) (.cells #[.slice A1 rk0.length c1, .int .i64 0, .slice A2 M0.length c2] 25)
  have HX1 := Aside0.mk (blk_new W1 (.cells #[.slice A1 rk0.length c1, .int .i64 0, .slice A2 M0.length c2] 25))
  have HB2 := Aside0.mk (below_then hb1 hb1.size hba)
  have HR2 := Aside0.mk (Kd.C_below hr1 hba)
  have HM2 := Aside0.mk (Kd.C_below hM1 hba)
  clear hr1 hc1 hM1 hb1 hba HG HR1 HM1
  go_upto_region 2 with (fail)
  generalize W1.alloc (.cells #[.slice A1 rk0.length c1, .int .i64 0, .slice A2 M0.length c2] 25) = W2 at *
  generalize W1.heap.size = b1 at *
  obtain ⟨k0, k1, k2⟩ := box3_of HX1.out
  have HDU := Aside0.mk (dual0_calls A1 c1 A2 c2 W2 HR2.out HC1.out HM2.out ((HT.out).below HB2.out))
  go_wp2_with fail
  refine (HDU.out).mono ?_
  rintro E W3 ⟨A3, c3, A4, c4, rfl, hr3, hc3, hM3, hb3⟩
  have hba := below_alloc (Below.refl W3.heap.size W3) (.cells #[.slice A3 rk0.length c3, .int .i64 0, .slice A4 D0.length c4] 25)
  have hb4 := below_then hb3 hb3.size hba
  have HB4 := Aside0.mk (below_then HB2.out (HB2.out).size hb4)
  have HX1' := Aside0.mk (blk_below HX1.out hb4)
  have HR4 := Aside0.mk (Kd.C_below HR2.out hb4)
  have HM4 := Aside0.mk (Kd.C_below HM2.out hb4)
  have HX3 := Aside0.mk (blk_new W3 (.cells #[.slice A3 rk0.length c3, .int .i64 0, .slice A4 D0.length c4] 25))
  have HC3 := Aside0.mk hc3
  have HS4 := Aside0.mk (Kd.C_below hr3 hba)
  have HN4 := Aside0.mk (Kd.C_below hM3 hba)
  clear hr3 hc3 hM3 hb3 hba hb4 k0 k1 k2 HDU HX1 HR2 HM2 HB2
  go_upto_region 3 with (fail)
  generalize W3.alloc (.cells #[.slice A3 rk0.length c3, .int .i64 0, .slice A4 D0.length c4] 25) = W4 at *
  generalize W3.heap.size = b3 at *
  have hba := below_alloc (below_alloc (below_alloc (Below.refl W4.heap.size W4) (.cells #[.int .i64 2, .slice none 0 0] 28)) (.cells #[.int .i64 2, .slice none 0 0] 28)) (.cells #[.int .i64 1, .slice (some ⟨W4.heap.size + 1, 0, none⟩) 1 1] 28)
  have h5 := blk_alloc (blk_alloc (blk_new W4 (.cells #[.int .i64 2, .slice none 0 0] 28)) (.cells #[.int .i64 2, .slice none 0 0] 28)) (.cells #[.int .i64 1, .slice (some ⟨W4.heap.size + 1, 0, none⟩) 1 1] 28)
  have h6 := blk_alloc (blk_at2 W4 (.cells #[.int .i64 2, .slice none 0 0] 28) (.cells #[.int .i64 2, .slice none 0 0] 28)) (.cells #[.int .i64 1, .slice (some ⟨W4.heap.size + 1, 0, none⟩) 1 1] 28)
  have h7 := blk_new ((W4.alloc (.cells #[.int .i64 2, .slice none 0 0] 28)).alloc (.cells #[.int .i64 2, .slice none 0 0] 28)) (.cells #[.int .i64 1, .slice (some ⟨W4.heap.size + 1, 0, none⟩) 1 1] 28)
  have k5 := box2_of (blk_new W4 (.cells #[.int .i64 2, .slice none 0 0] 28))
  obtain ⟨k50, k51⟩ := k5
  have HB5 := Aside0.mk (below_then HB4.out (HB4.out).size hba)
  have HX5 := Aside0.mk (blk_below HX1'.out hba)
  have HY5 := Aside0.mk (blk_below HX3.out hba)
  have HR5 := Aside0.mk (Kd.C_below HR4.out hba)
  have HM5 := Aside0.mk (Kd.C_below HM4.out hba)
  have HS5 := Aside0.mk (Kd.C_below HS4.out hba)
  have HN5 := Aside0.mk (Kd.C_below HN4.out hba)
  have HT5 := Aside0.mk h5
  have HT6 := Aside0.mk h6
  rw [show ((W4.alloc (.cells #[.int .i64 2, .slice none 0 0] 28)).alloc (.cells #[.int .i64 2, .slice none 0 0] 28)).heap.size = W4.heap.size + 1 + 1 by simp] at h7
  have HT7 := Aside0.mk h7
  clear hba h5 h6 h7
  go_upto_region 5 with (fail)
  clear k50 k51
  generalize (((W4.alloc (.cells #[.int .i64 2, .slice none 0 0] 28)).alloc (.cells #[.int .i64 2, .slice none 0 0] 28)).alloc (.cells #[.int .i64 1, .slice (some ⟨W4.heap.size + 1, 0, none⟩) 1 1] 28)) = W5 at *
  generalize W4.heap.size = g at *
  have HI1 := Aside0.mk (fun (W : World) (hb : Below W5.heap.size W5 W) => is1_calls A1 c1 A2 c2 W (Kd.C_below HR5.out hb) HC1.out (Kd.C_below HM5.out hb) ((HT.out).tab.below (below_then HB5.out (HB5.out).size hb)))
  have HI2 := Aside0.mk (fun (W : World) (hb : Below W5.heap.size W5 W) => is2_calls A1 c1 A2 c2 (g + 1) W (Kd.C_below HR5.out hb) HC1.out (Kd.C_below HM5.out hb) (blk_below HT6.out hb) ((HT.out).tab.below (below_then HB5.out (HB5.out).size hb)))
  have HI3 := Aside0.mk (fun (W : World) (hb : Below W5.heap.size W5 W) => is3_calls A3 c3 A4 c4 (g + 1) W (Kd.C_below HS5.out hb) HC3.out (Kd.C_below HN5.out hb) (blk_below HT6.out hb) ((HT.out).tab.below (below_then HB5.out (HB5.out).size hb)))
  have HPU := Aside0.mk (fun (W : World) (hb : Below W5.heap.size W5 W) => put0_calls A3 c3 A4 c4 W (Kd.C_below HS5.out hb) HC3.out (Kd.C_below HN5.out hb))
  obtain ⟨k10, k11, k12⟩ := box3_of HX5.out
  obtain ⟨k50, k51⟩ := box2_of HT5.out
  go_wp2_with fail
  refine (HI1.out _ (Below.refl _ _)).mono ?_
  rintro E W6 ⟨rfl, hb6⟩
  have HB6 := Aside0.mk hb6
  clear k10 k11 k12 k50 k51 hb6
  obtain ⟨k10, k11, k12⟩ := box3_of (blk_below HX5.out HB6.out)
  obtain ⟨k60, k61⟩ := box2_of (blk_below HT7.out HB6.out)
  go_wp2_with fail
  refine (HI2.out _ HB6.out).mono ?_
  rintro E W7 ⟨rfl, hb7⟩
  have HB7 := Aside0.mk (below_then HB6.out (HB6.out).size hb7)
  clear k10 k11 k12 k60 k61 hb7
  obtain ⟨k10, k11, k12⟩ := box3_of (blk_below HY5.out HB7.out)
  obtain ⟨k60, k61⟩ := box2_of (blk_below HT7.out HB7.out)
  go_wp2_with fail
  refine (HI3.out _ HB7.out).mono ?_
  rintro E W8 ⟨rfl, hb8⟩
  have HB8 := Aside0.mk (below_then HB7.out (HB7.out).size hb8)
  clear k10 k11 k12 k60 k61 hb8
  obtain ⟨k10, k11, k12⟩ := box3_of (blk_below HY5.out HB8.out)
  go_wp2_with fail
  refine (HPU.out _ HB8.out).mono ?_
  rintro E W9 ⟨rfl, hb9⟩
  have HB9 := Aside0.mk (below_then HB5.out (HB5.out).size (below_then HB8.out (HB8.out).size hb9))
  have hex := exD_list
  unfold exD at hex ⊢
  clear k10 k11 k12 hb9
  go_wp2
  go_ret
  exact ⟨rfl, HB9.out⟩
end Go.Proofs.YtbmcigakiibncaaGreatDoor.H
namespace Go.Proofs.YtbmcigakiibncaaGreatDoor.H
open Go.RowKit Go.Proofs.YtbmcigakiibncaaGreatDoorW.PrintWords Go.Proofs.YtbmcigakiibncaaGreatDoorW.PrintLast Go.Proofs.YtbmcigakiibncaaGreatDoorW.PrintMore
set_option linter.unusedVariables false
set_option linter.unusedSimpArgs false
theorem TX.cells {w W : World} {x y z : Value} (h : TX w x y z W) : W.cell? ⟨w.heap.size, 0, none⟩ = some x ∧ W.cell? ⟨w.heap.size, 1, none⟩ = some y ∧ W.cell? ⟨w.heap.size, 2, none⟩ = some z :=
  ⟨(blk_cell h.box 0).trans rfl, (blk_cell h.box 1).trans rfl, (blk_cell h.box 2).trans rfl⟩
end Go.Proofs.YtbmcigakiibncaaGreatDoor.H
namespace Go.Proofs.YtbmcigakiibncaaGreatDoor.H
open Go.RowKit Go.Proofs.YtbmcigakiibncaaGreatDoorW.PrintWords Go.Proofs.YtbmcigakiibncaaGreatDoorW.PrintLast Go.Proofs.YtbmcigakiibncaaGreatDoorW.PrintMore
open Go.Proofs.YtbmcigakiibncaaGreatDoor.Q (S28 k28 z28 rd_T28 at_T28)
set_option linter.unusedVariables false
set_option linter.unusedSimpArgs false
def satA (M : Mv) (z : Bool) (l : List S28) (al : List Nd) : Bool := al.all fun x => ((accGL M z l).getD x.f0.toNat (fun _ => false)) x.f1.toNat
end Go.Proofs.YtbmcigakiibncaaGreatDoor.H
namespace Go.Proofs.YtbmcigakiibncaaGreatDoor.H
open Go.RowKit Go.Proofs.YtbmcigakiibncaaGreatDoorW.PrintWords Go.Proofs.YtbmcigakiibncaaGreatDoorW.PrintLast Go.Proofs.YtbmcigakiibncaaGreatDoorW.PrintMore
open Go.Proofs.YtbmcigakiibncaaGreatDoor.Q (S28 k28 z28 rd_T28)
set_option linter.unusedVariables false
set_option linter.unusedSimpArgs false
theorem rover_ev (rk : List Int) (N : Nat) : ∀ t : S28, nodes t ≤ N → N ≤ 20000 → Ev (fun k => Q.virgationref06_over.f k rk t.f0 t.f1) (overB rk t) := by
  induction N with
  | zero => intro t h; have := nodes_pos t; omega
  | succ N ih =>
    intro t h hN
    obtain ⟨s, l⟩ := t
    rw [nodes] at h
    have hll := lens_le (l := l)
    have loop : ∀ d j : Nat, l.length - j = d → j ≤ l.length → Ev (fun k => Q.virgationref06_over.l0 k rk l (l.length : Int) (j : Int)) (overL rk (l.drop j)) := by
      intro d
      induction d with
      | zero =>
        intro j hd hj
        refine ev_end fun k => ?_
        simp only [Q.virgationref06_over.l0]
        rw [if_neg (by omega), List.drop_eq_nil_of_le (by omega), overL]
      | succ d ihd =>
        intro j hd hj
        have hlt : j < l.length := by omega
        rw [dropT hlt, overL]
        have e1 := ih l[j] (by have := nodes_mem (List.getElem_mem hlt); omega) (by omega)
        have e2 := ihd (j + 1) (by omega) (by omega)
        rw [show ((j + 1 : Nat) : Int) = wrap64 ((j : Int) + 1) from (wrap_succ (i := (j : Int)) (by omega) (by omega)).symm] at e2
        refine ev_next (Ev.bind (f := fun k t => if t = true then Q.virgationref06_over.l0 k rk l (l.length : Int) (wrap64 ((j : Int) + 1)) else some false) e1 ?_) fun k => ?_
        · cases overB rk l[j] with
          | true => simpa using e2
          | false => simpa using Ev.now false
        · simp only [Q.virgationref06_over.l0]
          rw [if_pos (by omega), if_pos (by omega), if_pos (by omega), rdT_at hlt]
    have hgo : Ev (fun k => Q.virgationref06_over.j0 k rk false s l) (overL rk l) := by
      have e := loop l.length 0 (by omega) (by omega)
      rw [List.drop_zero] at e
      exact ev_next e fun k => by simp [Q.virgationref06_over.j0]
    have hno : Ev (fun k => Q.virgationref06_over.j0 k rk true s l) false := ev_end fun k => by simp [Q.virgationref06_over.j0]
    rw [overB]
    by_cases h3 : s = -1
    · subst h3
      by_cases h4 : l.length = 0
      · obtain rfl : l = [] := List.length_eq_zero_iff.1 h4
        refine ev_next hgo fun k => ?_
        simp only [Q.virgationref06_over.f]
        rw [if_neg (by omega), if_neg (by omega), if_pos trivial, if_neg (by simp), if_neg (by omega)]
      · rw [decide_eq_false h4, decide_eq_false (by omega : ¬ (0 : Int) ≤ -1)]
        simp only [Bool.and_false, Bool.false_and, Bool.or_false]
        refine ev_next hno fun k => ?_
        simp only [Q.virgationref06_over.f]
        rw [if_neg (by omega), if_neg (by omega), if_pos trivial, if_pos (by omega)]
    by_cases h1 : s < -1
    · rw [decide_eq_false h3, decide_eq_false (by omega : ¬ 0 ≤ s)]
      simp only [Bool.and_false, Bool.false_and, Bool.or_false]
      refine ev_next hno fun k => ?_
      simp only [Q.virgationref06_over.f]
      rw [if_pos h1]
    by_cases h2 : s ≥ (rk.length : Int)
    · rw [decide_eq_false (by omega : ¬ s < (rk.length : Int)), decide_eq_false h3]
      simp only [Bool.false_and, Bool.and_false, Bool.or_false]
      refine ev_next hno fun k => ?_
      simp only [Q.virgationref06_over.f]
      rw [if_neg h1, if_pos h2]
    · rw [decide_eq_false h3, decide_eq_true (by omega : 0 ≤ s), decide_eq_true (by omega : s < (rk.length : Int))]
      by_cases h5 : (l.length : Int) = rd rk s
      · rw [decide_eq_true h5]
        simp only [Bool.false_and, Bool.false_or, Bool.true_and]
        refine ev_next hgo fun k => ?_
        simp only [Q.virgationref06_over.f]
        rw [if_neg h1, if_neg h2, if_neg h3, if_pos (by omega), if_pos (by omega), if_pos (by omega), h5, bne_self_eq_false]
      · rw [decide_eq_false h5]
        simp only [Bool.false_and, Bool.false_or, Bool.and_false]
        refine ev_next hno fun k => ?_
        simp only [Q.virgationref06_over.f]
        rw [if_neg h1, if_neg h2, if_neg h3, if_pos (by omega), if_pos (by omega), if_pos (by omega), show ((l.length : Int) != rd rk s) = true by simpa using h5]
theorem nodesL_drop {l : List S28} {j : Nat} (h : j < l.length) : nodesL (l.drop j) = nodes l[j] + nodesL (l.drop (j + 1)) := by rw [dropT h, nodesL]
mutual
def lensT : S28 → Prop
  | ⟨_, l⟩ => l.length ≤ 9223372036854775807 ∧ lensTL l
def lensTL : List S28 → Prop
  | [] => True
  | t :: r => lensT t ∧ lensTL r
end
theorem lensTL_iff {l : List S28} : lensTL l ↔ ∀ t ∈ l, lensT t := by
  induction l with
  | nil => simp [lensTL]
  | cons a r ih => rw [lensTL, ih]; simp
theorem lensT_of {w : World} (N : Nat) : ∀ (t : S28) (A : Option Addr), nodes t ≤ N → Kd.C k28 w A t.f1.length t.f1 → lensT t := by
  induction N with
  | zero => intro t A h; have := nodes_pos t; omega
  | succ N ih =>
    intro t A h hC
    obtain ⟨s, l⟩ := t
    rw [nodes] at h
    rw [lensT]
    refine ⟨hC.2.1, lensTL_iff.2 fun t ht => ?_⟩
    obtain ⟨i, hi, rfl⟩ := List.mem_iff_getElem.1 ht
    obtain ⟨ad, A1, c1, e, _, _, _, h1⟩ := Q.at_T28 hC (i : Int) (by omega) (by show (i : Int) < (l.length : Int); omega)
    rw [rdT_at hi] at h1
    exact ih _ A1 (by have := nodes_mem ht; omega) h1
theorem depth_mem {l : List S28} {t : S28} (h : t ∈ l) : depth t ≤ depthL l := by
  induction l with
  | nil => cases h
  | cons a r ihr =>
    rw [depthL]
    rcases List.mem_cons.1 h with rfl | ht
    · omega
    · have := ihr ht; omega
theorem rnodes_ev (D : Nat) : ∀ (t : S28) (most : Nat), depth t ≤ D → most ≤ 20000 → lensT t → Ev (fun k => Q.virgationref06_Nodes.f k t.f0 t.f1 (most : Int)) ((min (nodes t) (most + 1) : Nat) : Int) := by
  induction D with
  | zero => intro t most h; cases t; rw [depth] at h; omega
  | succ D ih =>
    intro t most h hm hlen
    obtain ⟨s, l⟩ := t
    rw [lensT] at hlen
    have hl : l.length ≤ 9223372036854775807 := hlen.1
    have loop : ∀ d j n : Nat, l.length - j = d → j ≤ l.length → n ≤ most + 1 → Ev (fun k => Q.virgationref06_Nodes.l0 k (most : Int) (n : Int) (j : Int) s l) ((min (n + nodesL (l.drop j)) (most + 1) : Nat) : Int) := by
      intro d
      induction d with
      | zero =>
        intro j n hd hj hn
        refine ev_end fun k => ?_
        simp only [Q.virgationref06_Nodes.l0]
        rw [if_neg (by omega), List.drop_eq_nil_of_le (by omega), nodesL]
        congr 1
        omega
      | succ d ihd =>
        intro j n hd hj hn
        have hlt : j < l.length := by omega
        by_cases hnm : n ≤ most
        · have hdep : depth l[j] ≤ D := by
            rw [depth] at h
            have := depth_mem (List.getElem_mem hlt)
            omega
          have e1 := ih l[j] (most - n) hdep (by omega) (lensTL_iff.1 hlen.2 _ (List.getElem_mem hlt))
          have hp := nodes_pos l[j]
          refine ev_next (f := fun k => (Q.virgationref06_Nodes.f k (l[j]).f0 (l[j]).f1 ((most - n : Nat) : Int)).bind fun t => Q.virgationref06_Nodes.l0 k (most : Int) (wrap64 ((n : Int) + t)) ((j + 1 : Nat) : Int) s l) (Ev.bind e1 ?_) fun k => ?_
          · have e2 := ihd (j + 1) (n + min (nodes l[j]) (most - n + 1)) (by omega) (by omega) (by omega)
            rw [wr_id (by omega) (by omega), show (n : Int) + ((min (nodes l[j]) (most - n + 1) : Nat) : Int) = ((n + min (nodes l[j]) (most - n + 1) : Nat) : Int) by omega, nodesL_drop hlt]
            rw [show min (n + (nodes l[j] + nodesL (l.drop (j + 1)))) (most + 1) = min (n + min (nodes l[j]) (most - n + 1) + nodesL (l.drop (j + 1))) (most + 1) by omega]
            exact e2
          · simp only [Q.virgationref06_Nodes.l0]
            rw [if_pos (by omega), if_pos (by omega), if_pos (by omega), rdT_at hlt, wrap_succ (by omega) (by omega), wr_id (x := (most : Int) - (n : Int)) (by omega) (by omega), show (most : Int) - (n : Int) = ((most - n : Nat) : Int) by omega]
            rfl
        · refine ev_end fun k => ?_
          simp only [Q.virgationref06_Nodes.l0]
          rw [if_pos (by omega), if_neg (by omega)]
          congr 1
          omega
    have e := loop l.length 0 1 (by omega) (by omega) (by omega)
    rw [List.drop_zero] at e
    rw [nodes, show nodesL l + 1 = 1 + nodesL l by omega]
    refine ev_next e fun k => ?_
    simp only [Q.virgationref06_Nodes.f]
    rfl
theorem depthL_drop {l : List S28} {j : Nat} (h : j < l.length) : depthL (l.drop j) = max (depth l[j]) (depthL (l.drop (j + 1))) := by rw [dropT h, depthL]
theorem rdepth_ev (N : Nat) : ∀ t : S28, nodes t ≤ N → N ≤ 20000 → Ev (fun k => Q.virgationref06_Depth.f k t.f0 t.f1) ((depth t : Nat) : Int) := by
  induction N with
  | zero => intro t h; have := nodes_pos t; omega
  | succ N ih =>
    intro t h hN
    obtain ⟨s, l⟩ := t
    rw [nodes] at h
    have hll := lens_le (l := l)
    have loop : ∀ d j m : Nat, l.length - j = d → j ≤ l.length → m ≤ 20000 → Ev (fun k => Q.virgationref06_Depth.l0 k (m : Int) l (l.length : Int) (j : Int)) ((max m (depthL (l.drop j)) + 1 : Nat) : Int) := by
      intro d
      induction d with
      | zero =>
        intro j m hd hj hm
        refine ev_end fun k => ?_
        simp only [Q.virgationref06_Depth.l0]
        rw [if_neg (by omega), List.drop_eq_nil_of_le (by omega), depthL, wrap_succ (by omega) (by omega)]
        congr 1
        omega
      | succ d ihd =>
        intro j m hd hj hm
        have hlt : j < l.length := by omega
        have hnj := nodes_mem (List.getElem_mem hlt)
        have e1 := ih l[j] (by omega) (by omega)
        have hdj := depth_le l[j]
        refine ev_next (f := fun k => (Q.virgationref06_Depth.f k (l[j]).f0 (l[j]).f1).bind fun t => Q.virgationref06_Depth.l0 k (mx (m : Int) t) l (l.length : Int) ((j + 1 : Nat) : Int)) (Ev.bind e1 ?_) fun k => ?_
        · have e2 := ihd (j + 1) (max m (depth l[j])) (by omega) (by omega) (by omega)
          rw [depthL_drop hlt, show max m (max (depth l[j]) (depthL (l.drop (j + 1)))) = max (max m (depth l[j])) (depthL (l.drop (j + 1))) by omega]
          rw [show mx (m : Int) ((depth l[j] : Nat) : Int) = ((max m (depth l[j]) : Nat) : Int) by unfold mx; split <;> omega]
          exact e2
        · simp only [Q.virgationref06_Depth.l0]
          rw [if_pos (by omega), if_pos (by omega), if_pos (by omega), rdT_at hlt, wrap_succ (by omega) (by omega)]
          rfl
    have e := loop l.length 0 0 (by omega) (by omega) (by omega)
    rw [List.drop_zero] at e
    rw [depth, show depthL l + 1 = max 0 (depthL l) + 1 by omega]
    refine ev_next e fun k => ?_
    simp only [Q.virgationref06_Depth.f]
    rfl
theorem ris_ev (rk : List Int) (t : S28) (hl : lensT t) : Ev (fun k => Q.virgationref06_Is.f k rk t.f0 t.f1) (treeOk rk t) := by
  unfold Q.virgationref06_Is.f treeOk
  refine Ev.bind (rnodes_ev _ t 20000 (Nat.le_refl _) (Nat.le_refl _) hl) ?_
  by_cases h1 : nodes t ≤ 20000
  · rw [decide_eq_true h1, Bool.true_and]
    simp only [if_pos (show ((min (nodes t) (20000 + 1) : Nat) : Int) ≤ 20000 by omega)]
    refine Ev.bind (rdepth_ev _ t (Nat.le_refl _) h1) ?_
    by_cases h2 : depth t ≤ 200
    · rw [decide_eq_true h2, Bool.true_and]
      simp only [if_pos (show ((depth t : Nat) : Int) ≤ 200 by omega)]
      exact Ev.bind (rover_ev rk _ t (Nat.le_refl _) h1) (ev_end fun k => rfl)
    · rw [decide_eq_false h2, Bool.false_and]
      simp only [if_neg (show ¬ ((depth t : Nat) : Int) ≤ 200 by omega)]
      exact ev_end fun k => rfl
  · rw [decide_eq_false h1, Bool.false_and, Bool.false_and]
    simp only [if_neg (show ¬ ((min (nodes t) (20000 + 1) : Nat) : Int) ≤ 20000 by omega)]
    exact ev_end fun k => rfl
theorem rtis_calls (rk : List Int) (t : S28) (A1 : Option Addr) (c1 : Nat) (A : Option Addr) (c : Nat) (w : World) (hr : Kd.C (Kd.int .i64) w A1 rk.length rk) (hc1 : rk.length ≤ c1) (hC : Kd.C k28 w A t.f1.length t.f1) (hc : t.f1.length ≤ c) :
    Calls Tryz.prog 29 #[.slice A1 rk.length c1, .agg #[.int .i64 t.f0, .slice A t.f1.length c]] w fun E w' => E = .returned (.bool (treeOk rk t)) ∧ Below w.heap.size w w' := by
  obtain ⟨k, hk⟩ := (ris_ev rk t (lensT_of _ t A (Nat.le_refl _) hC)).rounds
  exact Q.virgationref06_Is.calls k A1 c1 rk t.f0 A c t.f1 _ w hr hc1 hC hc hk
end Go.Proofs.YtbmcigakiibncaaGreatDoor.H
namespace Go.Proofs.YtbmcigakiibncaaGreatDoor.H
open Go.RowKit Go.Proofs.YtbmcigakiibncaaGreatDoorW.PrintWords Go.Proofs.YtbmcigakiibncaaGreatDoorW.PrintLast Go.Proofs.YtbmcigakiibncaaGreatDoorW.PrintMore
open Go.Proofs.YtbmcigakiibncaaGreatDoor.Q (S28 k28 z28 rd_T28 at_T28)
set_option linter.unusedVariables false
set_option linter.unusedSimpArgs false
def stL (n : Nat) (p : Nat → Bool) : List Int := ((List.range n).filter p).map fun (i : Nat) => (i : Int)
theorem stL_succ (n : Nat) (p : Nat → Bool) : stL (n + 1) p = stL n p ++ (if p n then [(n : Int)] else []) := by
  unfold stL
  rw [List.range_succ, List.filter_append, List.map_append]
  cases h : p n <;> simp [h]
theorem bits_stL {n o : Nat} {p : Nat → Bool} (hn : n ≤ 6) (h : IsMask n p o) : bitsL o = stL n p := by
  unfold bitsL stL
  congr 1
  have h1 : (List.range 6).filter (fun i => o.testBit i) = (List.range 6).filter (fun i => decide (i < n) && p i) := List.filter_congr fun i hi => h.2 i (List.mem_range.1 hi)
  rw [h1]
  have key : ∀ m, n ≤ m → (List.range m).filter (fun i => decide (i < n) && p i) = (List.range n).filter p := by
    intro m
    induction m with
    | zero => intro hm; obtain rfl : n = 0 := by omega
              rfl
    | succ m ih =>
      intro hm
      rcases Nat.lt_or_ge m n with hlt | hge
      · obtain rfl : n = m + 1 := by omega
        exact List.filter_congr fun i hi => by rw [decide_eq_true (List.mem_range.1 hi), Bool.true_and]
      · rw [List.range_succ, List.filter_append, ih hge]
        simp [show ¬ m < n by omega]
  exact key 6 hn
def stV (rk : List Int) (st : Int) (M : Mv) (mode : Int) (t : S28) : List Int := if stErr rk st M mode t = 0 then stL M.length (accG M (decide (mode = 0)) t) else []
theorem stErr_zero {rk : List Int} {st : Int} {M : Mv} {mode : Int} {t : S28} (h : stErr rk st M mode t = 0) : auB rk st M = true ∧ treeOk rk t = true ∧ (mode = 0 ∨ mode = 1) := by
  unfold stErr at h
  cases h1 : auB rk st M with
  | false => rw [h1] at h; simp at h
  | true =>
    cases h2 : treeOk rk t with
    | false => rw [h1, h2] at h; simp at h
    | true =>
      rw [h1, h2, if_pos rfl, if_pos rfl] at h
      refine ⟨rfl, rfl, ?_⟩
      apply Classical.byContradiction
      intro hc
      rw [if_neg hc] at h
      cases h
def StE (rk : List Int) (st : Int) (M : Mv) (mode : Int) (t : S28) (w : World) (E : Ending) (w' : World) : Prop :=
  ∃ (A : Option Addr) (c : Nat), E = .returned (.tuple #[.slice A (stV rk st M mode t).length c, .int .i64 (stErr rk st M mode t)]) ∧ (stV rk st M mode t).length ≤ c ∧ Kd.C (Kd.int .i64) w' A (stV rk st M mode t).length (stV rk st M mode t) ∧ Below w.heap.size w w'
theorem StE.of {rk : List Int} {st : Int} {M : Mv} {mode : Int} {t : S28} {w w' : World} {l : List Int} {er : Int} {A : Option Addr} {c : Nat} (hv : stV rk st M mode t = l) (he : stErr rk st M mode t = er) (h : l.length ≤ c) (hC : Kd.C (Kd.int .i64) w' A l.length l) (hb : Below w.heap.size w w') :
    StE rk st M mode t w (.returned (.tuple #[.slice A l.length c, .int .i64 er])) w' := by
  subst hv he
  exact ⟨A, c, rfl, h, hC, hb⟩
theorem statesE_calls (rk : List Int) (M : Mv) (st mode : Int) (t : S28) (A1 : Option Addr) (c1 : Nat) (A2 : Option Addr) (c2 : Nat) (A : Option Addr) (c : Nat) (w : World)
    (hr : Kd.C (Kd.int .i64) w A1 rk.length rk) (hc1 : rk.length ≤ c1) (hM : Kd.C kA3 w A2 M.length M) (hC : Kd.C k28 w A t.f1.length t.f1) (hc : t.f1.length ≤ c) (hT : Tab w) :
    Calls Tryz.prog 13 #[.agg #[.slice A1 rk.length c1, .int .i64 st, .slice A2 M.length c2], .int .i64 mode, .agg #[.int .i64 t.f0, .slice A t.f1.length c]] w (StE rk st M mode t w) := by
  refine (statesG_calls rk M st mode t A1 c1 A2 c2 A c w hr hc1 hM hC hc hT).mono ?_
  rintro E w' ⟨ys, A', c', rfl, h1, h2, h3, h4, h5⟩
  have e : ys = stV rk st M mode t := by
    unfold stV
    by_cases h : stErr rk st M mode t = 0
    · rw [if_pos h]
      obtain ⟨o, hm, rfl⟩ := h4 h
      exact bits_stL (auOk (stErr_zero h).1).nM hm
    · rw [if_neg h]; exact h5 h
  subst e
  exact ⟨A', c', rfl, h1, h2, h3⟩
end Go.Proofs.YtbmcigakiibncaaGreatDoor.H
namespace Go.Proofs.YtbmcigakiibncaaGreatDoor.H
open Go.RowKit Go.Proofs.YtbmcigakiibncaaGreatDoorW.PrintWords Go.Proofs.YtbmcigakiibncaaGreatDoorW.PrintLast Go.Proofs.YtbmcigakiibncaaGreatDoorW.PrintMore
open Go.Proofs.YtbmcigakiibncaaGreatDoor.Q (S28 k28 z28 rd_T28 at_T28)
set_option linter.unusedVariables false
set_option linter.unusedSimpArgs false
theorem AT2.cells {w W : World} {x y z s v : Value} (h : AT2 w W #[x, y, z] #[s, v]) : (W.cell? ⟨w.heap.size, 0, none⟩ = some x ∧ W.cell? ⟨w.heap.size, 1, none⟩ = some y ∧ W.cell? ⟨w.heap.size, 2, none⟩ = some z) ∧ (W.cell? ⟨w.heap.size + 1, 0, none⟩ = some s ∧ W.cell? ⟨w.heap.size + 1, 1, none⟩ = some v) :=
  ⟨box3_cells h.h1, box2_cells h.h2⟩
end Go.Proofs.YtbmcigakiibncaaGreatDoor.H
namespace Go.Proofs.YtbmcigakiibncaaGreatDoor.H
open Go.RowKit Go.Proofs.YtbmcigakiibncaaGreatDoorW.PrintWords Go.Proofs.YtbmcigakiibncaaGreatDoorW.PrintLast Go.Proofs.YtbmcigakiibncaaGreatDoorW.PrintMore
open Go.Proofs.YtbmcigakiibncaaGreatDoor.Q (S28 k28 z28 rd_T28 at_T28)
set_option linter.unusedVariables false
set_option linter.unusedSimpArgs false
theorem overB_len {rk : List Int} {s : Int} {l : List S28} (h : overB rk ⟨s, l⟩ = true) (hs : s ≠ -1) : (l.length : Int) = rd rk s ∧ overL rk l = true ∧ 0 ≤ s := by
  rw [overB] at h
  simp only [Bool.or_eq_true, Bool.and_eq_true, decide_eq_true_eq] at h
  rcases h with ⟨h, _⟩ | ⟨⟨⟨h1, h2⟩, h3⟩, h4⟩
  · exact absurd h hs
  · exact ⟨h3, h4, h1⟩
theorem kid_acc {M : Mv} {z : Bool} {l : List S28} {k s : Nat} (h : k < l.length) : ((accGL M z l).getD k (fun _ => false)) s = accG M z l[k] s := by
  rw [accGL_map, List.getD_eq_getElem?_getD, List.getElem?_map, List.getElem?_eq_getElem h]; rfl
theorem accG_no {M : Mv} {z : Bool} {s : Int} {l : List S28} (h : s ≠ -1) (q : Nat) : accG M z ⟨s, l⟩ q = (altsAt M q s.toNat).any (satA M z l) := by
  rw [accG, if_neg h]; rfl
theorem mem_stL {n : Nat} {p : Nat → Bool} {x : Int} : x ∈ stL n p ↔ ∃ i : Nat, i < n ∧ p i = true ∧ x = (i : Int) := by
  unfold stL
  rw [List.mem_map]
  constructor
  · rintro ⟨i, hi, rfl⟩
    obtain ⟨h1, h2⟩ := List.mem_filter.1 hi
    exact ⟨i, List.mem_range.1 h1, h2, rfl⟩
  · rintro ⟨i, h1, h2, rfl⟩
    exact ⟨i, List.mem_filter.2 ⟨List.mem_range.2 h1, h2⟩, rfl⟩
end Go.Proofs.YtbmcigakiibncaaGreatDoor.H
namespace Go.Proofs.YtbmcigakiibncaaGreatDoor.H
open Go.RowKit Go.Proofs.YtbmcigakiibncaaGreatDoorW.PrintWords Go.Proofs.YtbmcigakiibncaaGreatDoorW.PrintLast Go.Proofs.YtbmcigakiibncaaGreatDoorW.PrintMore
open Go.Proofs.YtbmcigakiibncaaGreatDoor.Q (S28 k28 z28 rd_T28 at_T28)
set_option linter.unusedVariables false
set_option linter.unusedSimpArgs false
theorem maskF_bit (i : Nat) : ∀ (l : List Nd) (m : Nat), (maskF m l).testBit i = (m.testBit i || l.any fun x => spotN x == i)
  | [], m => by simp [maskF]
  | x :: r, m => by
    show (maskF (m ||| 2 ^ spotN x) r).testBit i = _
    rw [maskF_bit i r, Nat.testBit_or, Nat.testBit_two_pow, List.any_cons, Bool.or_assoc]
    rfl
theorem maskN_bit {i : Nat} {l : List Nd} : (maskN l).testBit i = true ↔ ∃ x ∈ l, spotN x = i := by
  unfold maskN
  rw [maskF_bit, Nat.zero_testBit, Bool.false_or, List.any_eq_true]
  constructor
  · rintro ⟨x, hx, h⟩; exact ⟨x, hx, beq_iff_eq.1 h⟩
  · rintro ⟨x, hx, h⟩; exact ⟨x, hx, beq_iff_eq.2 h⟩
theorem needI_spot {x : Nd} (h : InN x) : needI (spotN x) = x := by
  obtain ⟨a, b⟩ := x
  unfold InN at h
  unfold needI spotN
  simp only at h ⊢
  have e1 : (((a * 6 + b).toNat / 6 : Nat) : Int) = a := by omega
  have e2 : (((a * 6 + b).toNat % 6 : Nat) : Int) = b := by omega
  rw [e1, e2]
theorem spot_needI (i : Nat) : spotN (needI i) = i := by
  unfold needI spotN
  simp only
  omega
theorem unN_inj {a b : Nat} (ha : a < 16777216) (hb : b < 16777216) (h : unN a = unN b) : a = b := by
  have h1 : (unN a).map spotN = (unN b).map spotN := by rw [h]
  unfold unN at h1
  rw [List.map_map, List.map_map] at h1
  have e : (spotN ∘ needI) = id := by funext i; exact spot_needI i
  rw [e, List.map_id, List.map_id] at h1
  refine mask_ext ha hb fun i hi => ?_
  have := (bitsN_mem (m := a) (i := i))
  rw [h1, bitsN_mem] at this
  rw [Bool.eq_iff_iff]
  constructor
  · intro h2; exact (this.2 ⟨hi, h2⟩).2
  · intro h2; exact (this.1 ⟨hi, h2⟩).2
theorem masks_lt {al : List (List Nd)} (h : ∀ l ∈ al, ∀ x ∈ l, InN x) : ∀ m ∈ al.map maskN, m < 16777216 := by
  intro m hm
  obtain ⟨l, hl, rfl⟩ := List.mem_map.1 hm
  exact maskN_lt (h l hl)
theorem dual_take {al : List (List Nd)} (h : dualOk al = true) : dualD al = sortL ((hitsOf al).map unN) := by
  unfold dualD
  rw [List.take_of_length_le (by have := of_decide_eq_true h; omega)]
theorem dual_mem {al : List (List Nd)} (h : dualOk al = true) {l : List Nd} : l ∈ dualD al ↔ ∃ T ∈ hitsOf al, l = unN T := by
  rw [dual_take h, (sortL_perm _).mem_iff, List.mem_map]
  constructor
  · rintro ⟨T, h1, h2⟩; exact ⟨T, h1, h2.symm⟩
  · rintro ⟨T, h1, h2⟩; exact ⟨T, h1, h2.symm⟩
theorem dual_sat {al : List (List Nd)} (hin : ∀ l ∈ al, ∀ x ∈ l, InN x) (hd : dualOk al = true) (v v' : Nd → Bool) (hv : ∀ l ∈ al, ∀ x ∈ l, v' x = !v x) : (dualD al).any (fun l => l.all v') = !(al.any fun l => l.all v) := by
  have hlt := masks_lt hin
  cases h : (al.any fun l => l.all v) with
  | true =>
    rw [Bool.not_true]
    obtain ⟨l, hl, hall⟩ := List.any_eq_true.1 h
    cases h2 : (dualD al).any (fun l => l.all v') with
    | false => rfl
    | true =>
      exfalso
      obtain ⟨l2, hl2, hall2⟩ := List.any_eq_true.1 h2
      obtain ⟨T, hT, rfl⟩ := (dual_mem hd).1 hl2
      obtain ⟨t1, t2, t3⟩ := (hits_iff _ hlt).1 hT
      obtain ⟨i, i1, i2⟩ := and_ne.1 (t2 (maskN l) (List.mem_map.2 ⟨l, hl, rfl⟩))
      obtain ⟨x, hx, hs⟩ := maskN_bit.1 i1
      have e : needI i = x := by rw [← hs]; exact needI_spot (hin l hl x hx)
      have m1 : needI i ∈ unN T := List.mem_map.2 ⟨i, bitsN_mem.2 ⟨bit_lt t1 i2, i2⟩, rfl⟩
      have k1 := List.all_eq_true.1 hall2 _ m1
      have k2 := List.all_eq_true.1 hall x hx
      rw [e, hv l hl x hx, k2] at k1
      cases k1
  | false =>
    rw [Bool.not_false]
    have hno : ∀ l ∈ al, ∃ x ∈ l, v x = false := by
      intro l hl
      apply Classical.byContradiction
      intro hc
      have : (al.any fun l => l.all v) = true := List.any_eq_true.2 ⟨l, hl, List.all_eq_true.2 fun x hx => by
        cases hx2 : v x with
        | true => rfl
        | false => exact absurd ⟨x, hx, hx2⟩ hc⟩
      rw [h] at this; cases this
    let S := maskN ((List.range 24).filterMap fun i => if v' (needI i) = true then some (needI i) else none)
    have hSin : ∀ x ∈ ((List.range 24).filterMap fun i => if v' (needI i) = true then some (needI i) else none), InN x ∧ v' x = true := by
      intro x hx
      obtain ⟨i, hi, h1⟩ := List.mem_filterMap.1 hx
      split at h1
      · rename_i h2
        obtain rfl := Option.some.inj h1
        have := List.mem_range.1 hi
        exact ⟨by unfold InN needI; simp only; omega, h2⟩
      · cases h1
    have hS : S < 16777216 := maskN_lt fun x hx => (hSin x hx).1
    have hSb : ∀ i, S.testBit i = true → v' (needI i) = true := by
      intro i hi
      obtain ⟨x, hx, hs⟩ := maskN_bit.1 hi
      rw [← hs, needI_spot (hSin x hx).1]
      exact (hSin x hx).2
    have hSh : HitsM (al.map maskN) S := by
      intro m hm
      obtain ⟨l, hl, rfl⟩ := List.mem_map.1 hm
      obtain ⟨x, hx, hx2⟩ := hno l hl
      refine and_ne.2 ⟨spotN x, maskN_bit.2 ⟨x, hx, rfl⟩, maskN_bit.2 ⟨x, List.mem_filterMap.2 ⟨spotN x, List.mem_range.2 (spot_lt (hin l hl x hx)).1, ?_⟩, rfl⟩⟩
      rw [needI_spot (hin l hl x hx), if_pos (by rw [hv l hl x hx, hx2]; rfl)]
    obtain ⟨T, hT, hsub⟩ := hits_within _ hlt _ S (Nat.le_refl _) hS hSh
    refine List.any_eq_true.2 ⟨unN T, (dual_mem hd).2 ⟨T, hT, rfl⟩, List.all_eq_true.2 fun x hx => ?_⟩
    obtain ⟨i, hi, rfl⟩ := List.mem_map.1 hx
    exact hSb i (hsub i (bitsN_mem.1 hi).2)
theorem upN_of {l : List Nd} (h : l.Pairwise fun x y => befI x y < 0) : upN l = true := by
  unfold upN
  refine range_true fun i hi => decide_eq_true ?_
  rw [List.getD_eq_getElem?_getD, List.getD_eq_getElem?_getD, List.getElem?_eq_getElem (show i < l.length by omega), List.getElem?_eq_getElem (show i + 1 < l.length by omega)]
  exact (List.pairwise_iff_getElem.1 h) i (i + 1) (by omega) (by omega) (by omega)
theorem upL_of {l : List (List Nd)} (h : l.Pairwise fun x y => cmpL x y < 0) : upL l = true := by
  unfold upL
  refine range_true fun i hi => decide_eq_true ?_
  rw [List.getD_eq_getElem?_getD, List.getD_eq_getElem?_getD, List.getElem?_eq_getElem (show i < l.length by omega), List.getElem?_eq_getElem (show i + 1 < l.length by omega)]
  exact (List.pairwise_iff_getElem.1 h) i (i + 1) (by omega) (by omega) (by omega)
theorem befI_needI {i j : Nat} (h : i < j) : befI (needI i) (needI j) < 0 := by
  unfold befI needI
  simp only
  split <;> omega
theorem unN_up (T : Nat) : (unN T).Pairwise fun x y => befI x y < 0 := by
  unfold unN
  rw [List.pairwise_map]
  have h1 : (bitsN T).Pairwise (· < ·) := by
    unfold bitsN
    exact List.Pairwise.sublist List.filter_sublist List.pairwise_lt_range
  exact h1.imp fun h => befI_needI h
theorem strict_of {l : List (List Nd)} (h1 : l.Pairwise leL) (h2 : l.Nodup) : l.Pairwise fun x y => cmpL x y < 0 := by
  refine (h1.and h2).imp fun h => ?_
  rcases leL_iff.1 h.1 with h3 | h3
  · exact h3
  · exact absurd h3 h.2
theorem nodup_map_inj {α β : Type} {f : α → β} : ∀ {l : List α}, (∀ a ∈ l, ∀ b ∈ l, f a = f b → a = b) → l.Nodup → (l.map f).Nodup
  | [], _, _ => List.nodup_nil
  | a :: r, h, hn => by
    rw [List.map_cons, List.nodup_cons]
    refine ⟨fun hm => ?_, nodup_map_inj (fun x hx y hy => h x (List.mem_cons_of_mem _ hx) y (List.mem_cons_of_mem _ hy)) (List.nodup_cons.1 hn).2⟩
    obtain ⟨b, hb, e⟩ := List.mem_map.1 hm
    have := h b (List.mem_cons_of_mem _ hb) a (List.mem_cons_self ..) e
    subst this
    exact (List.nodup_cons.1 hn).1 hb
theorem dual_up {al : List (List Nd)} (hin : ∀ l ∈ al, ∀ x ∈ l, InN x) (hd : dualOk al = true) : (dualD al).Pairwise fun x y => cmpL x y < 0 := by
  have hlt := masks_lt hin
  rw [dual_take hd]
  refine strict_of (sortL_sorted _) ((sortL_perm _).nodup_iff.2 (nodup_map_inj (fun a ha b hb e => unN_inj (hits_lt hlt a ha) (hits_lt hlt b hb) e) (hits_nodup _ hlt)))
theorem dual_valid {r n : Int} {al : List (List Nd)} (hr : r ≤ 4) (hn : n ≤ 6) (h : altsOk r n al = true) (hd : dualOk al = true) : altsOk r n (dualD al) = true := by
  unfold altsOk at h ⊢
  simp only [Bool.and_eq_true, decide_eq_true_eq, List.all_eq_true] at h ⊢
  have hnb : ∀ l ∈ al, ∀ x ∈ l, nbad r n x = false := by
    intro l hl x hx
    have h2 := h.1.2 l hl
    unfold listOk at h2
    simp only [Bool.and_eq_true, Bool.not_eq_true', decide_eq_true_eq] at h2
    cases hb : nbad r n x with
    | false => rfl
    | true => have := List.any_eq_true.2 ⟨x, hx, hb⟩; rw [h2.1.2] at this; cases this
  have hin : ∀ l ∈ al, ∀ x ∈ l, InN x := by
    intro l hl x hx
    have := hnb l hl x hx
    unfold nbad at this
    simp only [Bool.or_eq_false_iff, decide_eq_false_iff_not] at this
    unfold InN
    omega
  have hlt := masks_lt hin
  refine ⟨⟨?_, fun l hl => ?_⟩, upL_of (dual_up hin hd)⟩
  · rw [dual_take hd, (sortL_perm _).length_eq, List.length_map]
    exact of_decide_eq_true hd
  · obtain ⟨T, hT, rfl⟩ := (dual_mem hd).1 hl
    obtain ⟨t1, t2, t3⟩ := (hits_iff _ hlt).1 hT
    unfold listOk
    simp only [Bool.and_eq_true, decide_eq_true_eq, Bool.not_eq_true']
    refine ⟨⟨(unN_small T).1, ?_⟩, upN_of (unN_up T)⟩
    cases hb : (unN T).any (nbad r n) with
    | false => rfl
    | true =>
      obtain ⟨x, hx, hx2⟩ := List.any_eq_true.1 hb
      obtain ⟨i, hi, rfl⟩ := List.mem_map.1 hx
      obtain ⟨m, hm, e⟩ := (needed_iff t1).1 t3 i (bitsN_mem.1 hi).2
      obtain ⟨l, hl, rfl⟩ := List.mem_map.1 hm
      obtain ⟨y, hy, hs⟩ := maskN_bit.1 (and_one.1 e).1.1
      rw [← hs, needI_spot (hin l hl y hy), hnb l hl y hy] at hx2
      cases hx2
theorem rowD_at (row : List (List (List Nd))) {f : Nat} (h : f < row.length) : (rowD row).getD f [] = dualD (row.getD f []) := by
  unfold rowD
  rw [List.getD_eq_getElem?_getD, List.getElem?_map, List.getElem?_eq_getElem h, List.getD_eq_getElem?_getD, List.getElem?_eq_getElem h]; rfl
theorem movD_at (M : Mv) {q : Nat} (h : q < M.length) : (M.map rowD).getD q [] = rowD (M.getD q []) := by
  rw [List.getD_eq_getElem?_getD, List.getElem?_map, List.getElem?_eq_getElem h, List.getD_eq_getElem?_getD, List.getElem?_eq_getElem h]; rfl
theorem mvOkD_at {M : Mv} (h : mvOkD M = true) {row : List (List (List Nd))} (hr : row ∈ M) {a : List (List Nd)} (ha : a ∈ row) : dualOk a = true :=
  List.all_eq_true.1 (List.all_eq_true.1 h row hr) a ha
theorem auB_dual {rk : List Int} {st : Int} {M : Mv} (h : auB rk st M = true) (hd : mvOkD M = true) : auB rk st (M.map rowD) = true := by
  have ok := auOk h
  unfold auB at h ⊢
  simp only [Bool.and_eq_true, decide_eq_true_eq, List.length_map] at h ⊢
  obtain ⟨⟨⟨⟨⟨h1, h2⟩, h3⟩, h4⟩, h5⟩, h6⟩ := h
  refine ⟨⟨⟨⟨⟨h1, h2⟩, h3⟩, h4⟩, h5⟩, ?_⟩
  rw [List.all_eq_true] at h6 ⊢
  intro row' hr'
  obtain ⟨row, hr, rfl⟩ := List.mem_map.1 hr'
  have h7 := h6 row hr
  unfold mrowOk at h7 ⊢
  simp only [Bool.and_eq_true, decide_eq_true_eq, List.all_eq_true, List.mem_range] at h7 ⊢
  refine ⟨by unfold rowD; rw [List.length_map]; exact h7.1, fun f hf => ?_⟩
  rw [rowD_at row (by omega)]
  have hrk : rd rk (f : Int) ≤ 4 := (ok.rks _ (rd_mem (by omega))).2
  exact dual_valid hrk (by omega) (h7.2 f hf) (mvOkD_at hd hr (getD_memX [] (show f < row.length by omega)))
theorem altsAt_dual {M : Mv} {q f : Nat} (hq : q < M.length) (hf : f < (M.getD q []).length) : altsAt (M.map rowD) q f = dualD (altsAt M q f) := by
  unfold altsAt
  rw [movD_at M hq, rowD_at _ hf]
theorem dual_acc {rk : List Int} {st : Int} {M : Mv} (h : auB rk st M = true) (hd : mvOkD M = true) (z : Bool) (N : Nat) : ∀ (t : S28) (q : Nat), nodes t ≤ N → overB rk t = true → q < M.length → accG (M.map rowD) (!z) t q = !accG M z t q := by
  have ok := auOk h
  have hmv := (mvOk_of h).1
  induction N with
  | zero => intro t q hN; have := nodes_pos t; omega
  | succ N ih =>
    intro t q hN ho hq
    obtain ⟨s, l⟩ := t
    rw [nodes] at hN
    by_cases hs : s = -1
    · subst hs; rw [accG, if_pos rfl, accG, if_pos rfl]
    · obtain ⟨e1, o1, s0⟩ := overB_len ho hs
      rw [accG_no hs, accG_no hs]
      have hsr : s.toNat < rk.length := by
        rw [overB] at ho
        simp only [Bool.or_eq_true, Bool.and_eq_true, decide_eq_true_eq] at ho
        rcases ho with ⟨h1, _⟩ | ⟨⟨⟨h1, h2⟩, h3⟩, h4⟩
        · exact absurd h1 hs
        · omega
      have hrow := hmv.2.1 q hq
      have hmem := getD_memX (l := M) [] hq
      have hmem2 := getD_memX (l := M.getD q []) [] (show s.toNat < (M.getD q []).length by omega)
      rw [altsAt_dual hq (by omega)]
      refine dual_sat (fun a ha x hx => (inN_of ok hmem hmem2).2 a ha |>.2 x hx) (mvOkD_at hd hmem hmem2) _ _ fun a ha x hx => ?_
      obtain ⟨k, p, hk, hp, rfl⟩ := hmv.2.2 q s.toNat hq hsr a ha x hx
      simp only [Int.toNat_natCast]
      have hkl : k < l.length := by
        have : ((s.toNat : Nat) : Int) = s := Int.toNat_of_nonneg s0
        rw [this] at hk
        omega
      rw [kid_acc hkl, kid_acc hkl]
      exact ih _ _ (by have := nodes_mem (List.getElem_mem hkl); omega) (overL_mem o1 (List.getElem_mem hkl)) hp
theorem stL_two (n : Nat) (p p' : Nat → Bool) (h : ∀ q, q < n → p' q = !p q) : (stL n p).length + (stL n p').length = n := by
  induction n with
  | zero => rfl
  | succ n ih =>
    rw [stL_succ, stL_succ, List.length_append, List.length_append]
    have := ih fun q hq => h q (by omega)
    have hn := h n (by omega)
    cases hp : p n with
    | true => rw [hp] at hn; rw [hn]; simp; omega
    | false => rw [hp] at hn; rw [hn]; simp; omega
theorem stL_apart {n : Nat} {p p' : Nat → Bool} (h : ∀ q, q < n → p' q = !p q) {x y : Int} (hx : x ∈ stL n p) (hy : y ∈ stL n p') : y ≠ x := by
  obtain ⟨i, h1, h2, rfl⟩ := mem_stL.1 hx
  obtain ⟨j, h3, h4, rfl⟩ := mem_stL.1 hy
  intro e
  have : j = i := by omega
  subst this
  rw [h j h1, h2] at h4
  cases h4
end Go.Proofs.YtbmcigakiibncaaGreatDoor.H
namespace Go.Proofs.YtbmcigakiibncaaGreatDoor.H
open Go.RowKit Go.Proofs.YtbmcigakiibncaaGreatDoorW.PrintWords Go.Proofs.YtbmcigakiibncaaGreatDoorW.PrintLast Go.Proofs.YtbmcigakiibncaaGreatDoorW.PrintMore
open Go.Proofs.YtbmcigakiibncaaGreatDoor.Q (S28 k28 z28 rd_T28 at_T28)
set_option linter.unusedVariables false
set_option linter.unusedSimpArgs false
theorem dual_as {rk : List Int} {st : Int} {M : Mv} {e : Int} {rk' : List Int} {st' : Int} {D : Mv} (h : dualR rk st M = (e, rk', st', D)) (A1 : Option Addr) (c1 : Nat) (A2 : Option Addr) (c2 : Nat) (w : World)
    (hr : Kd.C (Kd.int .i64) w A1 rk.length rk) (hc1 : rk.length ≤ c1) (hM : Kd.C kA3 w A2 M.length M) (ht : TabD w) :
    Calls Tryz.prog 21 #[.agg #[.slice A1 rk.length c1, .int .i64 st, .slice A2 M.length c2]] w fun E w' => ∃ B1 d1 B2 d2, E = .returned (.tuple #[.agg #[.slice B1 rk'.length d1, .int .i64 st', .slice B2 D.length d2], .int .i64 e]) ∧ Kd.C (Kd.int .i64) w' B1 rk'.length rk' ∧ rk'.length ≤ d1 ∧ Kd.C kA3 w' B2 D.length D ∧ D.length ≤ d2 ∧ Below w.heap.size w w' := by
  refine (adual_calls rk M st A1 c1 A2 c2 w hr hc1 hM ht).mono ?_
  rintro E w' q
  unfold DualRE at q
  rw [h] at q
  obtain ⟨v1, v2, rfl, h1, h2, h3⟩ := q
  obtain ⟨A3, c3, rfl⟩ := Kd.R_slice h1
  obtain ⟨A4, c4, rfl⟩ := Kd.R_slice h2
  have r1 := Kd.R_reads' h1
  have r2 := Kd.R_reads' h2
  exact ⟨A3, c3, A4, c4, rfl, r1.2.2, r1.2.1, r2.2.2, r2.2.1, h3⟩
theorem states_as {rk : List Int} {st : Int} {M : Mv} {mode : Int} {t : S28} {l : List Int} (h1 : auB rk st M = true) (h2 : treeOk rk t = true) (h3 : mode = 0 ∨ mode = 1) (hl : stL M.length (accG M (decide (mode = 0)) t) = l)
    (A1 : Option Addr) (c1 : Nat) (A2 : Option Addr) (c2 : Nat) (A : Option Addr) (c : Nat) (w : World)
    (hr : Kd.C (Kd.int .i64) w A1 rk.length rk) (hc1 : rk.length ≤ c1) (hM : Kd.C kA3 w A2 M.length M) (hC : Kd.C k28 w A t.f1.length t.f1) (hc : t.f1.length ≤ c) (hT : Tab w) :
    Calls Tryz.prog 13 #[.agg #[.slice A1 rk.length c1, .int .i64 st, .slice A2 M.length c2], .int .i64 mode, .agg #[.int .i64 t.f0, .slice A t.f1.length c]] w fun E w' => ∃ B d, E = .returned (.tuple #[.slice B l.length d, .int .i64 0]) ∧ l.length ≤ d ∧ Kd.C (Kd.int .i64) w' B l.length l ∧ Below w.heap.size w w' := by
  have q := statesE_calls rk M st mode t A1 c1 A2 c2 A c w hr hc1 hM hC hc hT
  have he : stErr rk st M mode t = 0 := by unfold stErr; rw [h1, h2, if_pos rfl, if_pos rfl, if_pos h3]
  have hv : stV rk st M mode t = l := by unfold stV; rw [if_pos he]; exact hl
  unfold StE at q
  rw [he, hv] at q
  exact q
set_option maxHeartbeats 8000000 in
set_option maxRecDepth 100000 in
theorem autoDuality_calls (rk : List Int) (M : Mv) (st : Int) (A1 : Option Addr) (c1 : Nat) (A2 : Option Addr) (c2 : Nat) (t : S28) (A : Option Addr) (c : Nat) (w : World)
    (hr : Kd.C (Kd.int .i64) w A1 rk.length rk) (hc1 : rk.length ≤ c1) (hM : Kd.C kA3 w A2 M.length M) (hc2 : M.length ≤ c2) (hC : Kd.C k28 w A t.f1.length t.f1) (hc : t.f1.length ≤ c) (hm : MX w) (ht : TabD w) :
    Calls Tryz.prog 8 #[.agg #[.slice A1 rk.length c1, .int .i64 st, .slice A2 M.length c2], .agg #[.int .i64 t.f0, .slice A t.f1.length c]] w fun E w' => E = .returned (.bool true) ∧ Below w.heap.size w w' := by
  have HI := Aside0.mk fun W (hW : Below w.heap.size w W) => isA_calls rk M st A1 c1 A2 c2 W (Kd.C_below hr hW) hc1 (Kd.C_below hM hW) hc2
  have HTI := Aside0.mk fun W (hW : Below w.heap.size w W) => rtis_calls rk t A1 c1 A c W (Kd.C_below hr hW) hc1 (Kd.C_below hC hW) hc
  have HDU := Aside0.mk fun (e : Int) (rk' : List Int) (st' : Int) (D : Mv) (h : dualR rk st M = (e, rk', st', D)) W (hW : Below w.heap.size w W) => dual_as h A1 c1 A2 c2 W (Kd.C_below hr hW) hc1 (Kd.C_below hM hW) (ht.below hW)
  have HSA := Aside0.mk fun (h1 : auB rk st M = true) (h2 : treeOk rk t = true) (mode : Int) (h3 : mode = 0 ∨ mode = 1) (l : List Int) (hl : stL M.length (accG M (decide (mode = 0)) t) = l) W (hW : Below w.heap.size w W) => states_as h1 h2 h3 hl A1 c1 A2 c2 A c W (Kd.C_below hr hW) hc1 (Kd.C_below hM hW) (Kd.C_below hC hW) hc (ht.below hW).tab
  have HSD := Aside0.mk fun (D : Mv) (B1 : Option Addr) (d1 : Nat) (B2 : Option Addr) (d2 : Nat) (h1 : auB rk st D = true) (h2 : treeOk rk t = true) (mode : Int) (h3 : mode = 0 ∨ mode = 1) (l : List Int) (hl : stL D.length (accG D (decide (mode = 0)) t) = l) W (hW : Below w.heap.size w W) (g1 : Kd.C (Kd.int .i64) W B1 rk.length rk) (g2 : rk.length ≤ d1) (g3 : Kd.C kA3 W B2 D.length D) => states_as h1 h2 h3 hl B1 d1 B2 d2 A c W g1 g2 g3 (Kd.C_below hC hW) hc (ht.below hW).tab
  have HAL := Aside0.mk fun W (hW : Below w.heap.size w W) => alive_calls W (MX.below hm hW) (ht.below hW)
  have HS := Aside0.mk (AT2.start w #[.slice A1 rk.length c1, .int .i64 st, .slice A2 M.length c2] #[.int .i64 t.f0, .slice A t.f1.length c])
  clear hr hc1 hM hC hc hc2 hm ht
  go_enter Tryz.func8, Tryz.ntmps8
  go_upto_region 1 with (fail)
  generalize ((w.alloc (.cells #[.slice A1 rk.length c1, .int .i64 st, .slice A2 M.length c2] 25)).alloc (.cells #[.int .i64 t.f0, .slice A t.f1.length c] 28)) = W1 at *
  obtain ⟨hk0, hk1, hk2⟩ := box3_cells (HS.out).h1
  obtain ⟨hk3, hk4⟩ := box2_cells (HS.out).h2
  go_wp2_with fail
  refine (HI.out _ (HS.out).hb).mono ?_
  rintro E W2 ⟨rfl, hb⟩
  have HS2 := Aside0.mk ((HS.out).below hb)
  clear hb HS HI hk0 hk1 hk2 hk3 hk4
  obtain ⟨hk0, hk1, hk2⟩ := box3_cells (HS2.out).h1
  obtain ⟨hk3, hk4⟩ := box2_cells (HS2.out).h2
  cases hau : auB rk st M with
  | false =>
    clear hau
    go_wp2_with fail
    refine (HAL.out _ (HS2.out).hb).mono ?_
    rintro E W3 ⟨rfl, hb⟩
    have HS3 := Aside0.mk ((HS2.out).below hb)
    clear hb
    go_wp2
    go_ret
    exact ⟨rfl, (HS3.out).hb⟩
  | true =>
  have HAU := Aside0.mk hau
  clear hau
  go_wp2_with fail
  refine (HTI.out _ (HS2.out).hb).mono ?_
  rintro E W3 ⟨rfl, hb⟩
  have HS3 := Aside0.mk ((HS2.out).below hb)
  clear hb HS2 HTI hk0 hk1 hk2 hk3 hk4
  obtain ⟨hk0, hk1, hk2⟩ := box3_cells (HS3.out).h1
  obtain ⟨hk3, hk4⟩ := box2_cells (HS3.out).h2
  cases hto : treeOk rk t with
  | false =>
    clear hto
    go_wp2_with fail
    refine (HAL.out _ (HS3.out).hb).mono ?_
    rintro E W4 ⟨rfl, hb⟩
    have HS4 := Aside0.mk ((HS3.out).below hb)
    clear hb
    go_wp2
    go_ret
    exact ⟨rfl, (HS4.out).hb⟩
  | true =>
  have HTO := Aside0.mk hto
  clear hto
  cases hdo : mvOkD M with
  | false =>
    have HDV := Aside0.mk (show dualR rk st M = (3, [], 0, []) by unfold dualR; rw [HAU.out, hdo]; rfl)
    clear hdo
    go_wp2_with fail
    refine (HDU.out _ _ _ _ HDV.out _ (HS3.out).hb).mono ?_
    rintro E W4 ⟨B1, d1, B2, d2, rfl, hr4, hd1, hM4, hd2, hb⟩
    have HS4 := Aside0.mk ((HS3.out).below hb)
    clear hb HS3 hr4 hd1 hM4 hd2 hk0 hk1 hk2 hk3 hk4
    go_upto_region 4 with (fail)
    have HS5 := Aside0.mk ((HS4.out).below (below_alloc (Below.refl W4.heap.size W4) (.cells #[.slice B1 ([] : List Int).length d1, .int .i64 0, .slice B2 ([] : Mv).length d2] 25)))
    generalize W4.alloc (.cells #[.slice B1 ([] : List Int).length d1, .int .i64 0, .slice B2 ([] : Mv).length d2] 25) = W5 at *
    go_wp2_with fail
    refine (HAL.out _ (HS5.out).hb).mono ?_
    rintro E W6 ⟨rfl, hb⟩
    have HS6 := Aside0.mk ((HS5.out).below hb)
    clear hb
    go_wp2
    go_ret
    exact ⟨rfl, (HS6.out).hb⟩
  | true =>
  have HDO := Aside0.mk hdo
  have HDV := Aside0.mk (show dualR rk st M = (0, rk, st, M.map rowD) by unfold dualR; rw [HAU.out, hdo]; rfl)
  have HDB := Aside0.mk (auB_dual HAU.out hdo)
  have HAC := Aside0.mk fun (z : Bool) (q : Nat) (hq : q < M.length) => dual_acc HAU.out hdo z _ t q (Nat.le_refl _) (by have := HTO.out; unfold treeOk at this; simp only [Bool.and_eq_true] at this; exact this.2) hq
  have HDL := Aside0.mk (show (M.map rowD).length = M.length from List.length_map ..)
  have HN6 := Aside0.mk (auOk HAU.out).nM
  clear hdo
  generalize M.map rowD = D at *
  go_wp2_with fail
  refine (HDU.out _ _ _ _ HDV.out _ (HS3.out).hb).mono ?_
  rintro E W4 ⟨B1, d1, B2, d2, rfl, hr4, hd1, hM4, hd2, hb⟩
  have ha := below_alloc (Below.refl W4.heap.size W4) (.cells #[.slice B1 rk.length d1, .int .i64 st, .slice B2 D.length d2] 25)
  have HS5 := Aside0.mk (((HS3.out).below hb).below ha)
  have HX5 := Aside0.mk (blk_new W4 (.cells #[.slice B1 rk.length d1, .int .i64 st, .slice B2 D.length d2] 25))
  have HR5 := Aside0.mk (Kd.C_below hr4 ha)
  have HM5 := Aside0.mk (Kd.C_below hM4 ha)
  have HD1 := Aside0.mk hd1
  clear ha hb HS3 hr4 hd1 hM4 hd2 hk0 hk1 hk2 hk3 hk4 HDU HDV
  go_upto_region 4 with (fail)
  generalize W4.alloc (.cells #[.slice B1 rk.length d1, .int .i64 st, .slice B2 D.length d2] 25) = W5 at *
  generalize W4.heap.size = b4 at *
  go_wp2
  go_loopg [39] 2 (fun gg v39 wi => ∃ j : Nat, j ≤ 2 ∧ 2 - j ≤ gg ∧ v39 = .int .i64 j ∧ Aside0 (AT2 w wi #[.slice A1 rk.length c1, .int .i64 st, .slice A2 M.length c2] #[.int .i64 t.f0, .slice A t.f1.length c]) ∧ Aside0 (Below W5.heap.size W5 wi))
  case atStart => exact ⟨0, by omega, by omega, rfl, HS5, ⟨Below.refl _ _⟩⟩
  case round =>
    clear HS5
    obtain ⟨j, hj, hgg, rfl, HS, HB⟩ := hrel
    by_cases hlt : j < 2
    · have hltz : (j : Int) < 2 := by omega
      have HLT := Aside0.mk hlt
      have HMJ := Aside0.mk (show (j : Int) = 0 ∨ (j : Int) = 1 by omega)
      have HMK := Aside0.mk (show (1 - (j : Int)) = 0 ∨ (1 - (j : Int)) = 1 by omega)
      have HKZ := Aside0.mk (show wrap64 ((j : Int) + 1) = ((j + 1 : Nat) : Int) by rw [wr_id (by omega) (by omega)]; rfl)
      have HOP := Aside0.mk (show ∀ q, q < M.length → accG D (decide ((1 - (j : Int)) = 0)) t q = !accG M (decide ((j : Int) = 0)) t q from fun q hq => by
        have e : decide ((1 - (j : Int)) = 0) = !decide ((j : Int) = 0) := by
          rcases (show j = 0 ∨ j = 1 by omega) with rfl | rfl <;> rfl
        rw [e]
        exact HAC.out _ q hq)
      have HTW := Aside0.mk (stL_two M.length _ _ (HOP.out))
      have HAP := Aside0.mk (fun (x y : Int) => stL_apart (x := x) (y := y) (HOP.out))
      have HLA := Aside0.mk (HSA.out HAU.out HTO.out (j : Int) HMJ.out _ rfl)
      have HLB := Aside0.mk (fun W hW g1 g3 => HSD.out D B1 d1 B2 d2 HDB.out HTO.out (1 - (j : Int)) HMK.out (stL M.length (accG D (decide ((1 - (j : Int)) = 0)) t)) (by rw [HDL.out]) W hW g1 HD1.out g3)
      generalize stL M.length (accG M (decide ((j : Int) = 0)) t) = la at *
      generalize stL M.length (accG D (decide ((1 - (j : Int)) = 0)) t) = lb at *
      obtain ⟨hk0, hk1, hk2⟩ := box3_cells (HS.out).h1
      obtain ⟨hk3, hk4⟩ := box2_cells (HS.out).h2
      clear hj hlt
      go_wp2_with fail
      refine (HLA.out _ (HS.out).hb).mono ?_
      rintro E W6 ⟨E1, e1, rfl, hl1, hC1, hb⟩
      have HS6 := Aside0.mk ((HS.out).below hb)
      have HB6 := Aside0.mk (below_then HB.out (HB.out).size hb)
      have HC1 := Aside0.mk hC1
      clear hb hC1 hl1 HS HB hk0 hk1 hk2 hk3 hk4 HLA
      obtain ⟨hk3, hk4⟩ := box2_cells (HS6.out).h2
      obtain ⟨hk5, hk6, hk7⟩ := box3_of (blk_below HX5.out HB6.out)
      go_wp2_with fail
      refine (HLB.out _ (HS6.out).hb (Kd.C_below HR5.out HB6.out) (Kd.C_below HM5.out HB6.out)).mono ?_
      rintro E W7 ⟨E2, e2, rfl, hl2, hC2, hb⟩
      have HS7 := Aside0.mk ((HS6.out).below hb)
      have HB7 := Aside0.mk (below_then HB6.out (HB6.out).size hb)
      have HC1' := Aside0.mk (Kd.C_below HC1.out hb)
      have HC2 := Aside0.mk hC2
      clear hb hC2 hl2 HS6 HB6 HC1 hk3 hk4 hk5 hk6 hk7 HLB
      obtain ⟨hk0, hk1, hk2⟩ := box3_cells (HS7.out).h1
      have hsum : (wrap64 ((la.length : Int) + (lb.length : Int)) != (M.length : Int)) = false := by
        have h1 := HTW.out
        have h2 := HN6.out
        rw [wr_id (by omega) (by omega)]
        simp only [bne_eq_false_iff_eq]
        omega
      go_wp2
      clear hsum hk0 hk1 hk2
      go_loopg [76] la.length (fun gg v76 wi => ∃ i : Nat, i ≤ la.length ∧ la.length - i ≤ gg ∧ v76 = .int .i64 i ∧ wi = W7)
      case atStart => exact ⟨0, by omega, by omega, rfl, rfl⟩
      case round =>
        obtain ⟨i, hi, hgg2, rfl, rfl⟩ := hrel
        by_cases hlti : i < la.length
        · have hltiz : (i : Int) < (la.length : Int) := by omega
          have HLI := Aside0.mk hlti
          have HKI := Aside0.mk (show wrap64 ((i : Int) + 1) = ((i + 1 : Nat) : Int) by rw [wr_id (by omega) (by have h1 := HTW.out; have h2 := HN6.out; omega)]; rfl)
          obtain ⟨ad, e, hx⟩ := at_int (HC1'.out) i hlti
          subst e
          have HXI := Aside0.mk (getD_memI hlti)
          generalize la.getD i 0 = x at *
          clear hi hlti
          go_wp2
          go_loopg [82] lb.length (fun gg v82 wi => ∃ k : Nat, k ≤ lb.length ∧ lb.length - k ≤ gg ∧ v82 = .int .i64 k ∧ wi = wr)
          case atStart => exact ⟨0, by omega, by omega, rfl, rfl⟩
          case round =>
            obtain ⟨k, hk, hgg3, rfl, rfl⟩ := hrel
            by_cases hltk : k < lb.length
            · have hltkz : (k : Int) < (lb.length : Int) := by omega
              have HLK := Aside0.mk hltk
              have HKK := Aside0.mk (show wrap64 ((k : Int) + 1) = ((k + 1 : Nat) : Int) by rw [wr_id (by omega) (by have h1 := HTW.out; have h2 := HN6.out; omega)]; rfl)
              obtain ⟨ad2, e, hy⟩ := at_int (HC2.out) k hltk
              subst e
              have hne : (lb.getD k 0 == x) = false := beq_eq_false_iff_ne.2 (HAP.out x _ HXI.out (getD_memI hltk))
              generalize lb.getD k 0 = y at *
              clear hk hltk
              go_wp2
              go_roundg (lb.length - (k + 1))
              case measure => have := HLK.out; omega
              case rel => exact ⟨k + 1, HLK.out, Nat.le_refl _, by rw [HKK.out], rfl⟩
            · obtain rfl : k = lb.length := by omega
              clear hk hgg3 hltk
              go_wp2
              go_roundg (la.length - (i + 1))
              case measure => have := HLI.out; omega
              case rel => exact ⟨i + 1, HLI.out, Nat.le_refl _, by rw [HKI.out], rfl⟩
        · obtain rfl : i = la.length := by omega
          clear hi hgg2 hlti
          go_wp2
          go_roundg (2 - (j + 1))
          case measure => have := HLT.out; omega
          case rel => exact ⟨j + 1, HLT.out, Nat.le_refl _, (by first | rfl | rw [HKZ.out]), HS7, HB7⟩
    · obtain rfl : j = 2 := by omega
      clear hj hgg hlt
      go_wp2_with fail
      refine (HAL.out _ (HS.out).hb).mono ?_
      rintro E W6 ⟨rfl, hb⟩
      have HS6 := Aside0.mk ((HS.out).below hb)
      clear hb
      go_wp2
      go_ret
      exact ⟨rfl, (HS6.out).hb⟩
end Go.Proofs.YtbmcigakiibncaaGreatDoor.H
namespace Go.Proofs.YtbmcigakiibncaaGreatDoor.H
open Go.ChangeShapes Go.WideShapes Go.ChangeAt Go.RowKit Go.Deep Go.Proofs.YtbmcigakiibncaaGreatDoorW.PrintWords Go.Proofs.YtbmcigakiibncaaGreatDoorW.PrintLast Go.Proofs.YtbmcigakiibncaaGreatDoorW.PrintMore
open Go.Proofs.YtbmcigakiibncaaGreatDoor.Q (S28 k28 S83 k83)
set_option linter.unusedVariables false
set_option maxRecDepth 100000
def Opens {α : Type} (P : Program) (t : TypeId) (d : Kd α) (W : α → Prop) : Prop :=
  ∀ {H : Type} (enc : TypeId × Value → H) (w : World) (base : Nat) (held : Bool) (fuel : Nat) (cs : List Value) (x : DataW H × List MemPlace),
    DataW.trod enc P w base (fun _ => true) held fuel t cs = some x → ∃ a : α, d.K w a cs ∧ W a
theorem opens_int {P : Program} {t : TypeId} {k : IntKind} (ht : P.underlying t = some (.int k)) : Opens P t (Kd.int k) (fun a => (Lit.int k a).wf = true) := by
  intro H enc w base held fuel cs x h
  obtain ⟨n, rfl, _, hw⟩ := DataW.trod_int ht h
  exact ⟨n, rfl, hw⟩
theorem choose_list {α : Type} {p : Nat → α → Prop} {n : Nat} (h : ∀ i, i < n → ∃ y, p i y) : ∃ xs : List α, xs.length = n ∧ ∀ i y, xs[i]? = some y → p i y := by
  induction n with
  | zero => exact ⟨[], rfl, fun i y h => by simp at h⟩
  | succ n ih =>
    obtain ⟨xs, h1, h2⟩ := ih (fun i hi => h i (by omega))
    obtain ⟨y, hy⟩ := h n (by omega)
    refine ⟨xs ++ [y], by simp [h1], fun i z hz => ?_⟩
    rcases Nat.lt_or_ge i xs.length with hi | hi
    · rw [List.getElem?_append_left hi] at hz
      exact h2 i z hz
    · rw [List.getElem?_append_right hi] at hz
      have h3 : i - xs.length = 0 := by
        rcases Nat.eq_zero_or_pos (i - xs.length) with h | h
        · exact h
        · rw [List.getElem?_eq_none (by simp; omega)] at hz; cases hz
      rw [h3] at hz
      obtain rfl : y = z := by simpa using hz
      rw [show i = n from by omega]
      exact hy
theorem opens_slice {α : Type} {P : Program} {t e : TypeId} {d : Kd α} {W : α → Prop} (ht : P.underlying t = some (.slice e)) (hsz : P.cellsOf e = d.sz) (ho : Opens P e d W) : Opens P t (Kd.slice e d) (fun xs => ∀ x ∈ xs, W x) := by
  intro H enc w base held fuel cs x h
  rcases open_slice ht h with ⟨rfl, _⟩ | ⟨a, len, cap, m, n, D, Pl, rfl, _, hl, hm, hmm, _, hx⟩
  · exact ⟨[], ⟨none, 0, rfl, Nat.le_refl _, rfl, by simp, fun h0 => absurd h0 (by simp)⟩, by simp⟩
  · have hmm' : m = cap := by simpa using hmm
    have each : ∀ i, i < len → ∃ y : α, ∃ cs', w.cells? base (a.add (i * P.cellsOf e)) (P.cellsOf e) = some cs' ∧ d.K w y cs' ∧ W y := by
      intro i hi
      obtain ⟨cs', h1, h2⟩ := hx i (by omega)
      obtain ⟨y, hy, hw⟩ := ho enc w base held n cs' _ h2
      exact ⟨y, cs', h1, hy, hw⟩
    obtain ⟨xs, hxl, hxs⟩ := choose_list each
    refine ⟨xs, ⟨some a, cap, by rw [hxl], by omega, rfl, ?_, fun _ => ⟨a, rfl, fun j p hj => ?_⟩⟩, fun y hy => ?_⟩
    · have : maxLen = 9223372036854775807 := rfl
      omega
    · obtain ⟨cs', h1, h2, _⟩ := hxs j p hj
      obtain ⟨_, hlen, hcell⟩ := World.cells?_some h1
      refine ⟨cs', d.K_len h2, h2, fun i u hu => ?_⟩
      have hi : i < cs'.length := (List.getElem?_eq_some_iff.1 hu).1
      have h3 := hcell i (by omega)
      rw [Go.Deep.add_add, hsz] at h3
      rw [h3]; exact hu
    · obtain ⟨j, hj, rfl⟩ := List.getElem_of_mem hy
      obtain ⟨_, _, _, h3⟩ := hxs j _ (List.getElem?_eq_getElem hj)
      exact h3
theorem open_row {α H : Type} {enc : TypeId × Value → H} {P : Program} {t e : TypeId} {d : Kd α} {W : α → Prop} {w : World} {base fuel : Nat} {held : Bool} {v : Value} {x : DataW H × List MemPlace} (ht : P.underlying t = some (.slice e)) (hsz : P.cellsOf e = d.sz) (ho : Opens P e d W)
    (h : DataW.trod enc P w base (fun _ => true) held fuel t [v] = some x) : ∃ A c xs, v = .slice A xs.length c ∧ xs.length ≤ c ∧ d.C w A xs.length xs ∧ ∀ y ∈ xs, W y := by
  obtain ⟨xs, ⟨A, c, hv, hc, hC⟩, hW⟩ := opens_slice ht hsz ho enc w base held fuel [v] x h
  exact ⟨A, c, xs, by simpa using hv, hc, hC, hW⟩
theorem opens_need : Opens Tryz.prog 83 k83 (fun _ => True) := by
  intro H enc w base held fuel cs x h
  obtain ⟨y0, y1, n, rfl, hl, h0, h1⟩ := trod_struct2 Tryz.underlying83 h
  have o0 : (Tryz.prog.cellsOf 3) = 1 := by kernel_rfl
  have o2 : (Tryz.prog.cellsOf 83) = 2 := by kernel_rfl
  rw [o2] at hl
  match cs, hl with
  | [c0, c1], _ =>
    simp only [o0] at h0 h1
    obtain ⟨s, e0, _, _⟩ := DataW.trod_int Tryz.underlying3 h0
    obtain ⟨t, e1, _, _⟩ := DataW.trod_int Tryz.underlying3 h1
    obtain rfl : c0 = .int .i64 s := by simpa using e0
    obtain rfl : c1 = .int .i64 t := by simpa using e1
    exact ⟨⟨s, t⟩, Q.k83_mk w ⟨s, t⟩, trivial⟩
theorem opens_moves : Opens Tryz.prog 23 (Kd.slice 65 kA3) (fun _ => True) := by
  intro H enc w base held fuel cs x h
  obtain ⟨a, h1, _⟩ := opens_slice (e := 65) Tryz.underlying23 (by kernel_rfl) (opens_slice (e := 66) Tryz.underlying65 (by kernel_rfl) (opens_slice (e := 69) Tryz.underlying66 (by kernel_rfl) (opens_slice (e := 83) Tryz.underlying69 (by kernel_rfl) opens_need))) enc w base held fuel cs x h
  exact ⟨a, h1, trivial⟩
theorem open_kids {H : Type} {enc : TypeId × Value → H} {w : World} {base fuel : Nat} {held : Bool} {cs : List Value} {x : DataW H × List MemPlace} (h : DataW.trod enc Tryz.prog w base (fun _ => true) held fuel 26 cs = some x)
    (each : ∀ (fuel : Nat) (cs : List Value) (y : DataW H × List MemPlace), SizeOf.sizeOf y.1 < SizeOf.sizeOf x.1 → DataW.trod enc Tryz.prog w base (fun _ => true) held fuel 28 cs = some y → ∃ t : S28, k28.K w t cs) :
    ∃ (A : Option Addr) (c : Nat) (l : List S28), cs = [.slice A l.length c] ∧ l.length ≤ c ∧ k28.C w A l.length l := by
  rcases open_slice Tryz.underlying26 h with ⟨rfl, _⟩ | ⟨a, len, cap, m, n, D, Pl, rfl, _, hl, hm, hmm, hxe, hx⟩
  · exact ⟨none, 0, [], rfl, Nat.le_refl _, rfl, by simp, fun h0 => absurd h0 (by simp)⟩
  · have hmm' : m = cap := by simpa using hmm
    have hel : ∀ i, i < len → ∃ t : S28, ∃ cs', w.cells? base (a.add (i * Tryz.prog.cellsOf 28)) (Tryz.prog.cellsOf 28) = some cs' ∧ k28.K w t cs' := by
      intro i hi
      obtain ⟨cs', h1, h2⟩ := hx i (by omega)
      have hlt : SizeOf.sizeOf (D i) < SizeOf.sizeOf x.1 := by
        rw [hxe]
        have hmem : D i ∈ (List.range len).map D := List.mem_map.2 ⟨i, List.mem_range.2 hi, rfl⟩
        have := List.sizeOf_lt_of_mem hmem
        simp only [DataW.slice.sizeOf_spec]
        omega
      obtain ⟨t, ht⟩ := each n cs' _ hlt h2
      exact ⟨t, cs', h1, ht⟩
    obtain ⟨xs, hxl, hxs⟩ := choose_list hel
    have c28 : Tryz.prog.cellsOf 28 = 2 := by kernel_rfl
    refine ⟨some a, cap, xs, by rw [hxl], by omega, rfl, ?_, fun _ => ⟨a, rfl, fun j p hj => ?_⟩⟩
    · have : maxLen = 9223372036854775807 := rfl
      omega
    · obtain ⟨cs', h1, h2⟩ := hxs j p hj
      obtain ⟨_, hlen, hcell⟩ := World.cells?_some h1
      refine ⟨cs', k28.K_len h2, h2, fun i u hu => ?_⟩
      have hi : i < cs'.length := (List.getElem?_eq_some_iff.1 hu).1
      have h3 := hcell i (by omega)
      rw [Go.Deep.add_add, c28] at h3
      rw [show k28.sz = 2 from rfl, h3]; exact hu
theorem open_tree {H : Type} {enc : TypeId × Value → H} {w : World} {base : Nat} {held : Bool} (N : Nat) : ∀ (fuel : Nat) (cs : List Value) (x : DataW H × List MemPlace), SizeOf.sizeOf x.1 ≤ N → DataW.trod enc Tryz.prog w base (fun _ => true) held fuel 28 cs = some x → ∃ t : S28, k28.K w t cs := by
  induction N with
  | zero =>
    intro fuel cs x hN
    have : 0 < SizeOf.sizeOf x.1 := by cases x.1 <;> simp <;> omega
    omega
  | succ N ih =>
    intro fuel cs x hN h
    obtain ⟨y0, y1, n, rfl, hl, h0, h1⟩ := trod_struct2 Tryz.underlying28 h
    have o0 : (Tryz.prog.cellsOf 3) = 1 := by kernel_rfl
    have o1 : (Tryz.prog.cellsOf 26) = 1 := by kernel_rfl
    have o2 : (Tryz.prog.cellsOf 28) = 2 := by kernel_rfl
    rw [o2] at hl
    match cs, hl with
    | [c0, c1], _ =>
      simp only [o0, o1] at h0 h1
      obtain ⟨s, e0, _, _⟩ := DataW.trod_int Tryz.underlying3 h0
      obtain ⟨A, c, l, e1, hlc, hC⟩ := open_kids h1 (fun fuel cs y hy hh => ih fuel cs y (by simp only [DataW.agg.sizeOf_spec, List.cons.sizeOf_spec, List.nil.sizeOf_spec] at hN; omega) hh)
      obtain rfl : c0 = .int .i64 s := by simpa using e0
      obtain rfl : c1 = .slice A l.length c := by simpa using e1
      exact ⟨⟨s, l⟩, Q.k28_mk w ⟨s, l⟩ hlc hC⟩
theorem arg_tree {H : Type} {enc : TypeId × Value → H} {w : World} {base : Nat} {held : Bool} {v : Value} {d : DataW H} {p : List MemPlace} (hv : Value.okWide Tryz.prog w .any base 28 v) (h : DataW.Trod enc Tryz.prog w 0 (fun _ => true) held 28 v d p) :
    ∃ (t : S28) (A : Option Addr) (c : Nat), v = .agg #[.int .i64 t.f0, .slice A t.f1.length c] ∧ t.f1.length ≤ c ∧ k28.C w A t.f1.length t.f1 := by
  obtain ⟨x3, y3, _, _, n3, rfl, _, _, a3, b3⟩ := Go.Joins.open_agg2 Tryz.underlying28 (by kernel_rfl) (by kernel_rfl) hv h
  obtain ⟨s3, he3, _, we3⟩ := DataW.trod_int Tryz.underlying3 a3
  obtain rfl : x3 = .int .i64 s3 := by simpa using he3
  obtain ⟨A3, cc3, l3, hy3, hl3, hC3⟩ := open_kids b3 (fun fuel cs y hy hh => open_tree _ fuel cs y (Nat.le_refl _) hh)
  obtain rfl : y3 = .slice A3 l3.length cc3 := by simpa using hy3
  exact ⟨⟨s3, l3⟩, A3, cc3, rfl, hl3, hC3⟩
theorem arg_auto {H : Type} {enc : TypeId × Value → H} {w : World} {base : Nat} {held : Bool} {v : Value} {d : DataW H} {p : List MemPlace} (hv : Value.okWide Tryz.prog w .any base 25 v) (h : DataW.Trod enc Tryz.prog w 0 (fun _ => true) held 25 v d p) :
    ∃ (rk : List Int) (st : Int) (M : Mv) (A1 : Option Addr) (c1 : Nat) (A2 : Option Addr) (c2 : Nat), v = .agg #[.slice A1 rk.length c1, .int .i64 st, .slice A2 M.length c2] ∧ rk.length ≤ c1 ∧ Kd.C (Kd.int .i64) w A1 rk.length rk ∧ M.length ≤ c2 ∧ Kd.C kA3 w A2 M.length M ∧ (Lit.int .i64 st).wf = true ∧ ∀ x ∈ rk, (Lit.int .i64 x).wf = true := by
  obtain ⟨x0, y0, z0, _, _, _, n0, rfl, _, _, a0, b0, c0⟩ := Go.Joins.open_agg3 Tryz.underlying25 (by kernel_rfl) (by kernel_rfl) hv h
  obtain ⟨A1, c1, rk, rfl, hl1, hC1, hw1⟩ := open_row (d := Kd.int .i64) Tryz.underlying22 (by kernel_rfl) (opens_int Tryz.underlying3) a0
  obtain ⟨st, hs, _, ws⟩ := DataW.trod_int Tryz.underlying3 b0
  obtain rfl : y0 = .int .i64 st := by simpa using hs
  obtain ⟨M, ⟨A2, c2, e2, hl2, hC2⟩, _⟩ := opens_moves enc _ _ _ _ _ _ c0
  obtain rfl : z0 = .slice A2 M.length c2 := by simpa using e2
  exact ⟨rk, st, M, A1, c1, A2, c2, rfl, hl1, hC1, hl2, hC2, ws, hw1⟩
theorem own : ownKnob Tryz.prog.godebug = none := by kernel_rfl
theorem laidOut : laidOutB Tryz.prog = true := by kernel_rfl
theorem g64 : Tryz.prog.globalNamed "math/bits.deBruijn64tab" = some 1 := by kernel_rfl
theorem t64 : (Tryz.prog.globals[1]?).map (·.type) = some 156 := by kernel_rfl
abbrev laid7 : List (String × DataW Unit) := [("math/bits.deBruijn32tab", Rows.laid_math_bits_deBruijn32tab), ("math/bits.deBruijn64tab", Rows.laid_math_bits_deBruijn64tab), ("internal/strconv.uint64pow10", Rows.laid_internal_strconv_uint64pow10), ("unicode/utf8.acceptRanges", Rows.laid_unicode_utf8_acceptRanges), ("strconv.ErrRange", Rows.laid_strconv_ErrRange), ("strconv.ErrSyntax", Rows.laid_strconv_ErrSyntax), ("unicode/utf8.first", Rows.laid_unicode_utf8_first)]
theorem mx_of_shaped {w : World} (h : w.ShapedOpen Tryz.prog) : MX w :=
  Go.Proofs.cell_of_shapedOpen_int (g := 2) (t := 3) (zero := #[.int .i64 0]) h (of_decide_eq_true (by kernel_rfl)) (by kernel_rfl) rfl (by kernel_rfl) (by kernel_rfl) Tryz.underlying3
theorem tabD_of_laid {W : World} (h : laidMetH Tryz.prog laid7 W) : TabD W := by
  rw [MakeChecks.laidMetH_plain _ _ _ (by kernel_rfl)] at h
  obtain ⟨ps, ⟨g0, t0, cs0, f0, p0, q0, hg0, ht0, hv0, hd0, ⟨g1, t1, cs1, f1, p1, q1, hg1, ht1, hv1, hd1, _, _⟩, _⟩, _, _⟩ := h
  obtain rfl := Option.some.inj (g64.symm.trans hg1)
  obtain rfl := Option.some.inj (t64.symm.trans ht1)
  obtain ⟨xs, m1, rfl, hx1, hlen, hn, hel⟩ := DataW.trod_array Tryz.underlying156 hd1
  have c5 : Tryz.prog.cellsOf 5 = 1 := by kernel_rfl
  simp only [Prod.mk.injEq] at hx1
  have hxe := hx1.1
  intro i hi
  have h1 := hel i hi
  rw [c5, Nat.mul_one] at h1
  cases hxi : xs[i]? with
  | none =>
    have := List.getElem?_eq_none_iff.1 hxi
    omega
  | some x =>
    rw [hxi] at h1
    obtain ⟨n, e1, e2, _⟩ := DataW.trod_int Tryz.underlying5 h1
    have hc := World.var?_cell hg1 hv1 i
    rw [hc, ← Array.getElem?_toList]
    have h3 := congrArg (·[0]?) e1
    have h4 : cs1.toList[i]? = some (.int .u8 n) := by simpa [List.getElem?_take, List.getElem?_drop] using h3
    rw [h4]
    have h5 : (xs.map (·.1))[i]? = some (.lit (.int .u8 n)) := by rw [List.getElem?_map, hxi]; simp [e2]
    have h6 : (xs.map (·.1)) = Lib.deBruijn64tab.map fun (n : Nat) => (.lit (.int .u8 (n : Int)) : DataW Unit) := by
      first | exact (DataW.agg.inj hxe).symm | exact DataW.agg.inj hxe
    rw [h6, List.getElem?_map] at h5
    have h7 : i < Lib.deBruijn64tab.length := by rw [show Lib.deBruijn64tab.length = 64 from rfl]; exact hi
    rw [List.getElem?_eq_getElem h7] at h5
    have h8 : ((Lib.deBruijn64tab[i] : Nat) : Int) = n := by simpa using h5
    rw [List.getD, List.getElem?_eq_getElem h7]
    simp [h8]
theorem handed_and_shaped {H : Type} {enc : TypeId × Value → H} {a : Assume} {C : Checked} {os : Os} {f : FuncId} {fn : Func} {s : ChangeSpec} {conds : List PathCond} {apart fresh handsOn again : Bool} {X : World → Array Value → Prop}
    (hX : ∀ (w w' : World) (args : Array Value), w.heap = w'.heap → X w args → X w' args)
    (own : ownKnob C.prog.godebug = none) (started : os.Started) (noInit : C.prog.inits.idxOf? f = none) (hfn : C.prog.funcs[f]? = some fn)
    (witness : ∃ (w : World) (tape : Tape) (i : Input), w.os = os ∧ (w.forCall tape i).Shaped C.prog ∧ i.vars = [] ∧ Input.okWide C.prog (w.forCall tape i) .any w.heap.size f i ∧
      ((s.pre enc C.prog fn conds apart (w.forCall tape i).memory i.args ∧ X (w.forCall tape i).memory i.args) ∧ sizedMet enc C.prog fn (OpenSpec.ofChange s) apart (w.forCall tape i).memory i.args) ∧ a.holds C.prog (lone (Frame.enter C.prog f i.args .normal) [] (w.forCall tape i)))
    (contract : ∀ (W : World) (base : Nat) (args : Array Value) (ds gs : List (DataW H)) (before : List MemPlace),
      (∀ (j : Nat) t v, fn.params[j]? = some t → args[j]? = some v → Value.okWide C.prog W .any base t v) →
      DataW.Whole enc C.prog fn.params.toList s.vars apart W args.toList ds gs before →
      conds.all (PathCond.test C.prog ⟨fn.params.toList, ds, s.plain.varTypes C.prog, gs⟩) = true →
      X W args → W.ShapedOpen C.prog →
      Calls C.prog f args W fun e W' => ∃ v, e = .returned v ∧ s.post enc C.prog fn apart fresh handsOn again W args v W') :
    ReturnsInHanded a C os f .any (fun w args => (s.pre enc C.prog fn conds apart w args ∧ X w args) ∧ sizedMet enc C.prog fn (OpenSpec.ofChange s) apart w args) (s.post enc C.prog fn apart fresh handsOn again) := by
  refine returnsInHanded_of_calls own started noInit witness ?_
  intro w tape i _ hsh _ hok hpre hholds
  obtain ⟨_, _, _, fn', hfn', _, _, _, _, hval⟩ := hok
  have e : fn' = fn := Option.some.inj (hfn'.symm.trans hfn)
  subst e
  obtain ⟨⟨⟨ds, gs, before, hw, hc⟩, hx⟩, hz⟩ := hpre
  have hw' := DataW.Whole.of_heap (w' := w.forCall tape i) (by rfl) hw
  refine (contract (w.forCall tape i) w.heap.size i.args ds gs before hval hw' hc (hX _ _ _ (by rfl) hx) hsh).mono fun e W' ⟨v, he, hp⟩ => ?_
  subst he
  exact ChangeSpec.post_blind hp
end Go.Proofs.YtbmcigakiibncaaGreatDoor.H
