/- What autoSame_calls, handed_and_shaped, own, laidOut, laid7, mx_of_shaped, tabD_of_laid, arg_auto, arg_tree needs, out of my texts, by a program (slim.py). -/
import Derived.Test.YtbmcigakiibncaaGreatDoorSA2
namespace Go.Proofs.YtbmcigakiibncaaGreatDoor.H
open Go.RowKit Go.Proofs.YtbmcigakiibncaaGreatDoorW.PrintWords Go.Proofs.YtbmcigakiibncaaGreatDoorW.PrintLast Go.Proofs.YtbmcigakiibncaaGreatDoorW.PrintMore
set_option linter.unusedVariables false
set_option linter.unusedSimpArgs false
set_option maxHeartbeats 8000000 in
set_option maxRecDepth 100000 in
theorem get_calls (t : ByteArray) (w : World) (hm : MX w) :
    Calls Tryz.prog 26 #[.string t] w (GetE t w) := by
  have hmf := run_mkfun9
  have HM := Aside0.mk hm
  have HG := Aside0.mk (GH.start w)
  clear hm
  go_enter_defers Tryz.func26, Tryz.ntmps26
  go_upto_region 1 with (fail)
  generalize ((w.alloc (.cells #[.slice none 0 0, .int .i64 0, .slice none 0 0] 25)).alloc (.cells #[.int .i64 0] 29)) = W1 at *
  cases q1 : decide ((t.size : Int) > 65536) with
  | true =>
    obtain ⟨c0, c1, c2, c3⟩ := (HG.out).cells
    obtain ⟨f0, f1, f2, f3⟩ := (HG.out).frozen
    have HR := Aside0.mk (show getR t = (3, [], 0, []) by unfold getR; rw [if_pos (by have := of_decide_eq_true q1; omega)])
    have HQ := Aside0.mk ((((HG.out).set0 (.slice none 0 0)).set1 (.int .i64 0)).set2 (.slice none 0 0))
    go_wp2
    exact get_ret0 HR.out ((HQ.out).hb.setCell (p := ⟨w.heap.size + 1, 0, none⟩) (Nat.le_succ _) _) (blk_far (HQ.out).ha (by show w.heap.size ≠ w.heap.size + 1; omega) _) (blk_set (HQ.out).he 0 _) _ rfl rfl
  | false =>
  have hsz : t.size ≤ 65536 := by have := of_decide_eq_false q1; omega
  have HSZ := Aside0.mk hsz
  have HSP := Aside0.mk (split_calls t 10 W1 (by omega) ((HM.out).below (HG.out).hb))
  clear q1
  go_wp2_with fail
  refine (HSP.out).mono ?_
  rintro E w2 ⟨rfl, hw⟩
  have hb := below_alloc (Below.refl W1.heap.size W1) (.cells ((chunks t 10).map Value.string).toArray 9)
  have hbn := blk_new W1 (.cells ((chunks t 10).map Value.string).toArray 9)
  rw [← hw] at hb hbn
  have HG2 := Aside0.mk (GL.mk ((HG.out).below hb) hbn (by have := blk_lt (HG.out).he; omega))
  have HLS := Aside0.mk (show (chunks t 10).length ≤ 65537 from by have := chunks_short t 10; omega)
  have HV1 := Aside0.mk (fun h => getV_short (t := t) h)
  have HV2 := Aside0.mk (fun h => getV_end (t := t) h)
  have HV3 := Aside0.mk (fun h => getV_first (t := t) h)
  have HV4 := Aside0.mk (fun i hi h => getV_rank (t := t) (i := i) hi h)
  have HV5 := Aside0.mk (fun h => getV_second (t := t) h)
  have HV6 := Aside0.mk (fun h => getV_sec (t := t) h)
  have HCS := Aside0.mk (fun i => chunk_size t 10 i)
  clear hw hb hbn HG HSP
  generalize hLL : chunks t 10 = L at *
  generalize W1.heap.size = bl at *
  cases q2 : decide ((L.length : Int) < 3) with
  | true =>
    have HN := Aside0.mk (HV1.out (by have := of_decide_eq_true q2; omega))
    go_wp2
    exact get_panic (getR_bad HSZ.out HN.out) (HG2.out).g _ rfl rfl
  | false =>
  have hl3 : 3 ≤ L.length := by have := of_decide_eq_false q2; omega
  have HL3 := Aside0.mk hl3
  have hk := strs_cell (HG2.out).l (show L.length - 1 < L.length by omega)
  have hk0 := strs_cell (HG2.out).l (show 0 < L.length by omega)
  have HLE := Aside0.mk (HV2.out)
  clear HV2
  generalize hle : L.getD (L.length - 1) ByteArray.empty = le at *
  have HLEE := Aside0.mk hle
  generalize hs0 : L.getD 0 ByteArray.empty = s0 at *
  have HS0 := Aside0.mk hs0
  have HS0Z := Aside0.mk (show s0.size ≤ t.size by rw [← hs0]; exact HCS.out 0)
  clear hle hs0
  have hz2 : IntKind.i64.wrap ((L.length : Int) - 1) = (L.length : Int) - 1 := by have := HLS.out; simp [IntKind.wrap, IntKind.bits, IntKind.signed]; omega
  cases q3 : le.toList.isEmpty with
  | false =>
    have HN := Aside0.mk (HLE.out (fun e => by rw [e, Lib.toList_data] at q3; revert q3; decide))
    go_wp2
    exact get_panic (getR_bad HSZ.out HN.out) (HG2.out).g _ rfl rfl
  | true =>
    have HWO := Aside0.mk (wordsB_calls s0 sRanks w2 (by have := HS0Z.out; omega) ((HM.out).below (HG2.out).g.hb))
    go_wp2_with fail
    refine (HWO.out).mono ?_
    rintro E w3 ⟨hb, ⟨hne, rfl⟩ | ⟨hhd, o, rfl, ho, hws⟩⟩
    · have HN := Aside0.mk (HV3.out hne)
      have HG3 := Aside0.mk ((HG2.out).below hb)
      unfold pbad
      go_wp2
      exact get_panic (getR_bad HSZ.out HN.out) (HG3.out).g _ rfl rfl
    · have HG3 := Aside0.mk ((HG2.out).below hb)
      have HWS := Aside0.mk hws
      have HO := Aside0.mk ho
      have HHD := Aside0.mk hhd
      have HBW := Aside0.mk (show w.heap.size + 2 ≤ w2.heap.size from by have := blk_lt (HG2.out).l; have := (HG2.out).hbl; omega)
      have HLEM := Aside0.mk (show le = ByteArray.empty from string_inj (by rw [Lib.toList_data, Lib.toList_data]; rw [Lib.toList_data] at q3; rw [List.isEmpty_iff.1 q3]; rfl))
      clear hb hws ho hhd hk hk0 hz2 HG2 HWO q2 q3
      generalize w2.heap.size = bw at *
      generalize hws0 : chunks s0 32 = ws at *
      generalize hwd : ws.drop 1 = wd at *
      have HWZ := Aside0.mk (show ∀ i, (wd.getD i ByteArray.empty).size ≤ s0.size from fun i => by
        have h1 := chunk_size s0 32 (1 + i)
        rw [hws0] at h1
        rw [← hwd]
        rw [show (ws.drop 1).getD i ByteArray.empty = ws.getD (1 + i) ByteArray.empty by simp [List.getD_eq_getElem?_getD, List.getElem?_drop, Nat.add_comm]]
        exact h1)
      have HWD := Aside0.mk hwd
      have HWS0 := Aside0.mk hws0
      have HWL := Aside0.mk (show wd.length ≤ 65536 from by
        have h1 := chunks_short s0 32
        rw [hws0] at h1
        rw [← hwd, List.length_drop]
        have := HS0Z.out; have := HSZ.out
        omega)
      clear hwd hws0
      go_wp2
      go_loopg [47] wd.length (fun gg v47 wi => ∃ (i : Nat) (A : Option Addr) (c : Nat), i ≤ wd.length ∧ wd.length - i ≤ gg ∧ v47 = .int .i64 i ∧ Aside0 (GL w wi (.slice A i c) (.int .i64 0) (.slice none 0 0) bl L) ∧ Aside0 (wi.heap[bw]? = some (.cells (ws.map Value.string).toArray 9 (0, 0))) ∧ Aside0 (Kd.R (Kd.int .i64) 3 wi w.heap.size (fun k => w.heap.size + 2 ≤ k) (.slice A i c) ((wd.take i).map valW)) ∧ Aside0 (∀ j, j < i → okW (wd.getD j ByteArray.empty) = true))
      case atStart => exact ⟨0, none, 0, Nat.zero_le _, Nat.le_refl _, rfl, HG3, HWS, ⟨Kd.R_nil _ _ _ _ _⟩, ⟨fun j hj => absurd hj (Nat.not_lt_zero _)⟩⟩
      case round =>
        clear HG3 HWS
        obtain ⟨i, A, c, hi, hgg, rfl, HG4, HWB, HR, HOK⟩ := hrel
        by_cases hlt : i < wd.length
        · have hltz : (i : Int) < (wd.length : Int) := by omega
          have hk := words_cell (HWB.out) (show i < (ws.drop 1).length by rw [HWD.out]; exact hlt) (by rw [HWD.out]; exact HO.out)
          rw [HWD.out] at hk
          have HS1Z := Aside0.mk (HWZ.out i)
          have HS1B := Aside0.mk (HV4.out i)
          generalize hs1 : wd.getD i ByteArray.empty = s1 at *
          have HS1 := Aside0.mk hs1
          clear hs1
          go_upto_region 10 with (fail)
          clear hk
          have HN := Aside0.mk (number_calls s1 wr.drew (by have := HS1Z.out; have := HS0Z.out; have := HSZ.out; omega))
          obtain ⟨k0, k1, k2, k3⟩ := (HG4.out).g.cells
          cases q4 : okW s1 with
          | false =>
            have HX := Aside0.mk (HS1B.out hlt q4)
            have HNE := Aside0.mk (show numE s1.data.toList = pbad by unfold numE; rw [show numOk s1.data.toList = false from q4]; rfl)
            rw [HNE.out] at HN
            have HPX := Aside0.mk (fun w4 (hb : Below wr.drew.heap.size wr.drew w4) => (HG4.out).below (below_then (below_drew (Below.refl wr.heap.size wr)) (below_drew (Below.refl wr.heap.size wr)).size hb))
            refine wp_region_any (by kernel_rfl) ?_
            change wpAny _ _ _ _ _ _ _ (World.drew _)
            refine wpAny_ready (rs := [0, 2]) (by kernel_rfl) (by simp) ?_
            refine AllReady.cons rfl (fun K hK => ?_) ?_
            · go_simp
              refine hK _ _ ?_
              clear hK K
              refine wpAny_ready (rs := [1, 2]) (by kernel_rfl) (by simp) ?_
              refine AllReady.cons rfl (fun K hK => ?_) ?_
              · go_simp
                refine hK _ _ ?_
                clear hK K
                refine wpAny_ready (rs := [2]) (by kernel_rfl) (by simp) ?_
                refine AllReady.cons rfl (fun K hK => ?_) ?_
                · go_simp
                  refine hK _ _ ?_
                  clear hK K
                  refine wpAny_ready (rs := [3]) (by kernel_rfl) (by simp) ?_
                  refine AllReady.cons rfl (fun K hK => ?_) ?_
                  · go_simp
                    go_wp2_with (go_at_call 61; refine (HN.out).mono ?_; rintro E w4 ⟨rfl, hb⟩; exact get_panic (getR_bad HSZ.out HX.out) ((HPX.out) _ hb).g _ rfl rfl)
                  exact AllReady.nil
                exact AllReady.nil
              refine AllReady.cons rfl (fun K hK => ?_) ?_
              · go_simp
                refine hK _ _ ?_
                clear hK K
                refine wpAny_ready (rs := [1, 3]) (by kernel_rfl) (by simp) ?_
                refine AllReady.cons rfl (fun K hK => ?_) ?_
                · go_simp
                  refine hK _ _ ?_
                  clear hK K
                  refine wpAny_ready (rs := [3]) (by kernel_rfl) (by simp) ?_
                  refine AllReady.cons rfl (fun K hK => ?_) ?_
                  · go_simp
                    go_wp2_with (go_at_call 61; refine (HN.out).mono ?_; rintro E w4 ⟨rfl, hb⟩; exact get_panic (getR_bad HSZ.out HX.out) ((HPX.out) _ hb).g _ rfl rfl)
                  exact AllReady.nil
                refine AllReady.cons rfl (fun K hK => ?_) ?_
                · go_simp
                  go_wp2_with (go_at_call 61; refine (HN.out).mono ?_; rintro E w4 ⟨rfl, hb⟩; exact get_panic (getR_bad HSZ.out HX.out) ((HPX.out) _ hb).g _ rfl rfl)
                exact AllReady.nil
              exact AllReady.nil
            refine AllReady.cons rfl (fun K hK => ?_) ?_
            · go_simp
              refine hK _ _ ?_
              clear hK K
              refine wpAny_ready (rs := [0, 3]) (by kernel_rfl) (by simp) ?_
              refine AllReady.cons rfl (fun K hK => ?_) ?_
              · go_simp
                refine hK _ _ ?_
                clear hK K
                refine wpAny_ready (rs := [1, 3]) (by kernel_rfl) (by simp) ?_
                refine AllReady.cons rfl (fun K hK => ?_) ?_
                · go_simp
                  refine hK _ _ ?_
                  clear hK K
                  refine wpAny_ready (rs := [3]) (by kernel_rfl) (by simp) ?_
                  refine AllReady.cons rfl (fun K hK => ?_) ?_
                  · go_simp
                    go_wp2_with (go_at_call 61; refine (HN.out).mono ?_; rintro E w4 ⟨rfl, hb⟩; exact get_panic (getR_bad HSZ.out HX.out) ((HPX.out) _ hb).g _ rfl rfl)
                  exact AllReady.nil
                refine AllReady.cons rfl (fun K hK => ?_) ?_
                · go_simp
                  go_wp2_with (go_at_call 61; refine (HN.out).mono ?_; rintro E w4 ⟨rfl, hb⟩; exact get_panic (getR_bad HSZ.out HX.out) ((HPX.out) _ hb).g _ rfl rfl)
                exact AllReady.nil
              refine AllReady.cons rfl (fun K hK => ?_) ?_
              · go_simp
                go_wp2_with (go_at_call 61; refine (HN.out).mono ?_; rintro E w4 ⟨rfl, hb⟩; exact get_panic (getR_bad HSZ.out HX.out) ((HPX.out) _ hb).g _ rfl rfl)
              exact AllReady.nil
            exact AllReady.nil
          | true =>
            have HQ4 := Aside0.mk q4
            refine wp_region_noPanic ?_
            have HN2 := Aside0.mk (show numE s1.data.toList = .returned (.int .i64 (valW s1)) by unfold numE; rw [show numOk s1.data.toList = true from q4]; rfl)
            rw [HN2.out] at HN
            have HPX := Aside0.mk (fun w4 (hb : Below wr.drew.heap.size wr.drew w4) => below_then (below_drew (Below.refl wr.heap.size wr)) (below_drew (Below.refl wr.heap.size wr)).size hb)
            have HLT := Aside0.mk hlt
            have hlen : (((wd.take i).map valW).length + 1) * 8 ≤ 140737488355328 := by rw [List.length_map, List.length_take]; have := HWL.out; omega
            have HLEN := Aside0.mk (show ((wd.take i).map valW).length = i by rw [List.length_map, List.length_take]; omega)
            have HTK := Aside0.mk (show (wd.take i).map valW ++ [valW s1] = (wd.take (i + 1)).map valW by
              rw [List.take_add_one, List.map_append]
              congr 1
              have e : wd[i]? = some s1 := by rw [← HS1.out]; simp [List.getD_eq_getElem?_getD, hlt]
              rw [e]; rfl)
            have HLE1 := Aside0.mk (show ((wd.take (i + 1)).map valW).length = i + 1 by rw [List.length_map, List.length_take]; omega)
            go_region_law (first
              | (go_simp; go_at_call 61; refine (HN.out).mono ?_; rintro E w4 ⟨rfl, hb⟩; have HB4 := Aside0.mk ((HPX.out) w4 hb); clear hb; have HG5 := Aside0.mk ((HG4.out).below HB4.out); have HR5 := Aside0.mk (Kd.R_below HR.out HB4.out); have HWB5 := Aside0.mk (blk_below HWB.out HB4.out); obtain ⟨m0, m1, m2, m3⟩ := (HG5.out).g.cells; have l0 := pw_cell_below (below_alloc (Below.refl w4.heap.size w4) (.cells #[.int .i64 (valW s1)] 3)) m0)
              | (refine Kd.R_append_step (Kd.int .i64) (w0 := w) (W := w4) w.heap.size (by simp [Region.wanted]) (.tmp 52) (.tmp 55) 22 3 (.int .i64 0) 8 rfl Tryz.underlying22 Q.info3 rfl (by decide) (by omega) (.slice A i c) ((wd.take i).map valW) (valW s1) [.int .i64 (valW s1)] (fun k => w.heap.size + 2 ≤ k) (fun _ => False) (by rfl) (by rfl) rfl (fun _ hk => hk.elim) (fun k hk => by have := blk_lt (HG5.out).l; have := (HG5.out).hbl; omega) HR5.out (HG5.out).g.hb (HG5.out).g.hb.size hlen ?_; intro v5 w5 ho5 hb5 hg5 hat5; rw [HTK.out] at ho5; (obtain ⟨A5, c5, e5⟩ := Kd.R_slice ho5); rw [HLE1.out] at e5; subst e5; have HR6 := Aside0.mk ho5; have HG6 := Aside0.mk ((HG5.out).app HR5.out (by decide) hb5 hg5); have HWB6 := Aside0.mk (blk_grown HWB5.out hg5 (fun hk => by obtain ⟨⟨cc, hcc⟩, _⟩ := ownBlock_typed HR5.out hk.symm; exact types_ne hcc HWB5.out (by decide) rfl)); clear ho5 hb5 hg5 hat5; obtain ⟨n0, n1, n2, n3⟩ := (HG6.out).g.cells; obtain ⟨g0, g1, g2, g3⟩ := (HG6.out).g.frozen)
              | fail)
            all_goals
              refine NoPanic.normal ?_
              go_wp2
              go_roundg (wd.length - (i + 1))
              case measure => have := HLT.out; omega
              case rel => exact ⟨i + 1, A5, c5, HLT.out, Nat.le_refl _, by rw [wr_id (x := (i : Int) + 1) (by omega) (by have := HLT.out; have := HWL.out; omega)]; rfl, ⟨(HG6.out).set0 _⟩, ⟨blk_far HWB6.out (by have := HBW.out; show bw ≠ w.heap.size; omega) _⟩, ⟨Kd.R_far HR6.out (p := ⟨w.heap.size, 0, none⟩) (fun k hk he => by have h0 : k = w.heap.size := he; omega) _⟩, ⟨fun j hj => by
                by_cases e : j = i
                · rw [e, HS1.out]; exact HQ4.out
                · exact HOK.out j (by omega)⟩⟩
        · obtain rfl : i = wd.length := by omega
          have HALL := Aside0.mk (show wd.all okW = true from List.all_eq_true.2 fun x hx => by
            obtain ⟨j, hj, hjx⟩ := List.mem_iff_getElem.1 hx
            have h1 := HOK.out j hj
            rw [List.getD_eq_getElem?_getD, List.getElem?_eq_getElem hj, hjx] at h1
            exact h1)
          rw [List.take_length] at HR
          clear hi hgg hlt HOK HWB HV4 HWZ
          have HN12 := Aside0.mk (Nat.lt_of_lt_of_le (show 1 < 3 by decide) HL3.out)
          have hk := strs_cell (HG4.out).l HN12.out
          have HS1Z := Aside0.mk (HCS.out 1)
          generalize hs1 : L.getD 1 ByteArray.empty = s1 at *
          have HS1 := Aside0.mk hs1
          have HWO := Aside0.mk (wordsB_calls s1 sStates wr (by have := HS1Z.out; have := HSZ.out; omega) ((HM.out).below (HG4.out).g.hb))
          clear hs1
          go_wp2_with fail
          refine (HWO.out).mono ?_
          rintro E w4 ⟨hb, ⟨hne, rfl⟩ | ⟨hhd, o2, rfl, ho, hws⟩⟩
          · have HN := Aside0.mk (HV5.out hne)
            have HG5 := Aside0.mk ((HG4.out).below hb)
            unfold pbad
            go_wp2
            exact get_panic (getR_bad HSZ.out HN.out) (HG5.out).g _ rfl rfl
          · have HG5 := Aside0.mk ((HG4.out).below hb)
            have HR5 := Aside0.mk (Kd.R_below HR.out hb)
            have HWS2 := Aside0.mk hws
            have HO2 := Aside0.mk ho
            have HHD2 := Aside0.mk hhd
            have HBW2 := Aside0.mk (show w.heap.size + 2 ≤ wr.heap.size from by have := blk_lt (HG4.out).l; have := (HG4.out).hbl; omega)
            have HWZ2 := Aside0.mk (show ∀ i, ((chunks s1 32).getD i ByteArray.empty).size ≤ 65536 from fun i => by have := chunk_size s1 32 i; have := HS1Z.out; have := HSZ.out; omega)
            clear hb hws ho hhd hk HG4 HR HWO HN12
            generalize wr.heap.size = bw2 at *
            generalize hws0 : chunks s1 32 = ws2 at *
            have HWS20 := Aside0.mk hws0
            clear hws0
            by_cases h3 : (ws2.drop 1).length = 3
            · obtain ⟨p, x1, x2, x3, rfl⟩ : ∃ p x1 x2 x3, ws2 = [p, x1, x2, x3] := by
                rw [List.length_drop] at h3
                match ws2, h3 with
                | [p, x1, x2, x3], _ => exact ⟨p, x1, x2, x3, rfl⟩
              obtain rfl : o2 = 1 := by have := HO2.out; simp at this; exact this
              have z1 : w4.cell? ⟨bw2, 1, none⟩ = some (.string x1) := (blk_cell HWS2.out 1).trans rfl
              have z2 : w4.cell? ⟨bw2, 2, none⟩ = some (.string x2) := (blk_cell HWS2.out 2).trans rfl
              have z3 : w4.cell? ⟨bw2, 3, none⟩ = some (.string x3) := (blk_cell HWS2.out 3).trans rfl
              have HX1Z := Aside0.mk (HWZ2.out 1)
              have HX3Z := Aside0.mk (HWZ2.out 3)
              have HSEC := Aside0.mk (show (secOk [x1, x2, x3] = false → getV t = none) from HV6.out)
              have HCE := Aside0.mk (show ∀ b : Bool, (x2.toList == [115, 116, 97, 114, 116]) = b → decide (x2 = sStart) = b from fun b hb => by
                have e : sStart.toList = [115, 116, 97, 114, 116] := by rw [Lib.toList_data]; rfl
                cases b with
                | true => exact decide_eq_true (string_inj (by rw [e]; exact hb))
                | false => exact decide_eq_false (string_ne (by rw [e]; exact hb)))
              cases q5 : (x2.toList == [115, 116, 97, 114, 116]) with
              | false =>
                have HN := Aside0.mk (HSEC.out (by show (decide (x2 = sStart) && okW x1 && okW x3) = false; rw [HCE.out _ q5]; rfl))
                go_wp2
                exact get_panic (getR_bad HSZ.out HN.out) (HG5.out).g _ rfl rfl
              | true =>
                have HX2 := Aside0.mk (HCE.out _ q5)
                have HN1 := Aside0.mk (number_calls x1 w4 (by have : x1.size ≤ 65536 := HX1Z.out; omega))
                go_wp2_with fail
                refine (HN1.out).mono ?_
                rintro E w5 ⟨rfl, hb⟩
                have HG6 := Aside0.mk ((HG5.out).below hb)
                have HR6 := Aside0.mk (Kd.R_below HR5.out hb)
                have HWS6 := Aside0.mk (blk_below HWS2.out hb)
                clear hb HG5 HR5 HWS2 z1 z2 z3 HN1 q5
                cases q6 : okW x1 with
                | false =>
                  have HN := Aside0.mk (HSEC.out (by show (decide (x2 = sStart) && okW x1 && okW x3) = false; rw [q6, HX2.out]; rfl))
                  rw [show numE x1.data.toList = pbad by unfold numE; rw [show numOk x1.data.toList = false from q6]; rfl]
                  unfold pbad
                  go_wp2
                  exact get_panic (getR_bad HSZ.out HN.out) (HG6.out).g _ rfl rfl
                | true =>
                rw [show numE x1.data.toList = .returned (.int .i64 (valW x1)) by unfold numE; rw [show numOk x1.data.toList = true from q6]; rfl]
                have HX1 := Aside0.mk q6
                have HN3 := Aside0.mk (number_calls x3 w5 (by have : x3.size ≤ 65536 := HX3Z.out; omega))
                have z3 : w5.cell? ⟨bw2, 3, none⟩ = some (.string x3) := (blk_cell HWS6.out 3).trans rfl
                clear q6
                go_wp2_with fail
                refine (HN3.out).mono ?_
                rintro E w6 ⟨rfl, hb⟩
                have HG7 := Aside0.mk ((HG6.out).below hb)
                have HR7 := Aside0.mk (Kd.R_below HR6.out hb)
                clear hb HG6 HR6 HWS6 z3 HN3
                cases q7 : okW x3 with
                | false =>
                  have HN := Aside0.mk (HSEC.out (by show (decide (x2 = sStart) && okW x1 && okW x3) = false; rw [q7, HX1.out, HX2.out]; rfl))
                  rw [show numE x3.data.toList = pbad by unfold numE; rw [show numOk x3.data.toList = false from q7]; rfl]
                  unfold pbad
                  go_wp2
                  exact get_panic (getR_bad HSZ.out HN.out) (HG7.out).g _ rfl rfl
                | true =>
                rw [show numE x3.data.toList = .returned (.int .i64 (valW x3)) by unfold numE; rw [show numOk x3.data.toList = true from q7]; rfl]
                have HX3 := Aside0.mk q7
                clear q7
                obtain ⟨k0, k1, k2, k3⟩ := (HG7.out).g.cells
                obtain ⟨f0, f1, f2, f3⟩ := (HG7.out).g.frozen
                go_upto_region 17 with (fail)
                have HG8 := Aside0.mk ((HG7.out).set1 (.int .i64 (valW x3)))
                have HR8 := Aside0.mk (Kd.R_far HR7.out (p := ⟨w.heap.size, 1, none⟩) (fun k hk he => by have h0 : k = w.heap.size := he; omega) (.int .i64 (valW x3)))
                generalize w6.setCell ⟨w.heap.size, 1, none⟩ (.int .i64 (valW x3)) = w7 at *
                clear HG7 HR7 k0 k1 k2 k3 f0 f1 f2 f3 HX1Z HX3Z HSEC HCE HV6 HWZ2
                have HST := Aside0.mk (num_nonneg HX1.out)
                generalize hst : valW x1 = states at *
                have HSTE := Aside0.mk hst
                clear hst
                have HV := Aside0.mk (getV_main hLL HL3.out (HLEE.out.trans HLEM.out) HS0.out HWS0.out HHD.out HWD.out HALL.out HS1.out HWS20.out HHD2.out (of_decide_eq_true HX2.out) HX1.out HX3.out)
                rw [HSTE.out] at HV
                clear HV1 HV3 HV5 HLE HLEE HLEM HS0 HS0Z HHD HWS0 HALL HS1Z HS1 HHD2 HWS20 HX2 HX3 HO2 HBW HBW2 hLL
                obtain ⟨N, hN⟩ : ∃ N : Nat, (if states < 7 then states else 7) = (N : Int) := ⟨(if states < 7 then states else 7).toNat, by have := HST.out; split <;> omega⟩
                have HN7 := Aside0.mk (show N ≤ 7 ∧ N = (min states 7).toNat from by split at hN <;> omega)
                have hmk : ∀ W : World, (Instr.makeSlice 65 (.int .i64 (wd.length : Int)) (.int .i64 (wd.length : Int))).run Tryz.prog W = .ok (.slice (some ⟨W.heap.size, 0, none⟩) wd.length wd.length) (W.alloc (.cells (madeCells #[.slice none 0 0] wd.length) 66)) := fun W => run_make_row' 65 66 (.slice none 0 0) 24 Tryz.underlying65 Q.info66 rfl .i64 .i64 wd.length (by have := HWL.out; omega) (by have := HWL.out; omega) W
                have hmin : min states 7 = (N : Int) := by have := (HN7.out).2; have := HST.out; omega
                go_wp2
                clear hmin
                go_loopg [85] N (fun gg v85 wi => ∃ (j : Nat) (A2 : Option Addr) (c2 : Nat) (gs : List Nat) (u : Nat → Nat → Value), j ≤ N ∧ N - j ≤ gg ∧ v85 = .int .i64 j ∧ Aside0 (GL w wi (.slice A wd.length c) (.int .i64 (valW x3)) (.slice A2 j c2) bl L) ∧ Aside0 (Kd.R (Kd.int .i64) 3 wi w.heap.size (fun k => w.heap.size + 2 ≤ k) (.slice A wd.length c) (wd.map valW)) ∧ Aside0 (MM w.heap.size (w.heap.size + 2) wi (.slice A2 j c2) (List.replicate j (List.replicate wd.length [])) wd.length gs u))
                case atStart => exact ⟨0, none, 0, [], _, Nat.zero_le _, Nat.le_refl _, rfl, HG8, HR8, ⟨MM.start _ _ _ _⟩⟩
                case round =>
                  clear HG8 HR8
                  obtain ⟨j, A2, c2, gs, u, hj, hgg, rfl, HG9, HR9, HMM⟩ := hrel
                  by_cases hlt : j < N
                  · have hltz : (j : Int) < (N : Int) := by omega
                    have HLT := Aside0.mk hlt
                    go_upto_region 19 with (fail)
                    obtain ⟨k0, k1, k2, k3⟩ := (HG9.out).g.cells
                    have hb1 := below_drew (Below.refl wr.heap.size wr)
                    have hb2 := below_alloc hb1 (.cells (madeCells #[.slice none 0 0] wd.length) 66)
                    have hnew := blk_new wr.drew (.cells (madeCells #[.slice none 0 0] wd.length) 66)
                    have m0 := pw_cell_below hb2 k0
                    have m2 := pw_cell_below hb2 k2
                    have HGA := Aside0.mk ((HG9.out).below hb2)
                    have HRA := Aside0.mk (Kd.R_below HR9.out hb2)
                    have HMA := Aside0.mk ((HMM.out).below hb2)
                    have q0_ := pw_cell_below (below_alloc (Below.refl wr.heap.size wr) (.cells (madeCells #[.slice none 0 0] wd.length) 66)) k0
                    have q2_ := pw_cell_below (below_alloc (Below.refl wr.heap.size wr) (.cells (madeCells #[.slice none 0 0] wd.length) 66)) k2
                    have l0 := pw_cell_below (below_alloc (Below.refl (wr.alloc (.cells (madeCells #[.slice none 0 0] wd.length) 66)).heap.size (wr.alloc (.cells (madeCells #[.slice none 0 0] wd.length) 66))) (.cells #[.slice (some ⟨wr.heap.size, 0, none⟩) wd.length wd.length] 65)) q0_
                    have l2 := pw_cell_below (below_alloc (Below.refl (wr.alloc (.cells (madeCells #[.slice none 0 0] wd.length) 66)).heap.size (wr.alloc (.cells (madeCells #[.slice none 0 0] wd.length) 66))) (.cells #[.slice (some ⟨wr.heap.size, 0, none⟩) wd.length wd.length] 65)) q2_
                    have HNEW := Aside0.mk (show (wr.drew.alloc (.cells (madeCells #[.slice none 0 0] wd.length) 66)).heap[wr.heap.size]? = some (.cells (Array.replicate wd.length (.slice none 0 0)) 66 (0, 0)) from by rw [← made_rep]; exact hnew)
                    have HGSL := Aside0.mk (show gs.length = j by rw [(HMM.out).len]; simp)
                    have HGLT := Aside0.mk (show ∀ q, q < (List.replicate j (List.replicate wd.length ([] : List (List Nd)))).length → gs.getD q 0 ≠ wr.heap.size from fun q hq => by have := blk_lt ((HMM.out).rows q hq).2.1; omega)
                    have HB2 := Aside0.mk (show w.heap.size + 2 ≤ wr.heap.size from by have := blk_lt (HG9.out).l; have := (HG9.out).hbl; omega)
                    clear hb1 hb2 hnew
                    refine wp_region_noPanic ?_
                    go_region_law (first
                      | (refine Kd.R_append_step (kRow wd.length) (w0 := w) (W := wr.drew.alloc (.cells (madeCells #[.slice none 0 0] wd.length) 66)) w.heap.size (by simp [Region.wanted]) (.tmp 88) (.tmp 93) 23 65 (.slice none 0 0) 24 rfl Tryz.underlying23 Q.info65 rfl (show 0 < 1 by decide) (by decide) (.slice A2 j c2) gs wr.heap.size [.slice (some ⟨wr.heap.size, 0, none⟩) wd.length wd.length] (fun k => w.heap.size + 2 ≤ k) (fun _ => False) (by rfl) (by show Value.slice (some ⟨wr.heap.size + 1, 0, none⟩) 1 1 = _; simp) rfl (fun _ hk => hk.elim) (fun k hk => by have := blk_lt (HGA.out).l; have := (HGA.out).hbl; omega) (HMA.out).row (HGA.out).g.hb (HGA.out).g.hb.size (by rw [HGSL.out]; have := (HN7.out).1; have := HLT.out; omega) ?_; intro v5 w5 ho5 hb5 hg5 hat5; have HMP := Aside0.mk ((HMA.out).push wr.heap.size HNEW.out HB2.out HGLT.out ho5 hg5); (obtain ⟨A5, c5, e5⟩ := Kd.R_slice ho5); rw [List.length_append, HGSL.out, List.length_singleton] at e5; subst e5; have HGP := Aside0.mk ((HGA.out).app (HMA.out).row (by decide) hb5 hg5); have HRP := Aside0.mk (R_grown9 HRA.out (HMA.out).row (by decide) (fun _ h => by cases h) hg5); clear ho5 hb5 hg5 hat5; obtain ⟨n0, n1, n2, n3⟩ := (HGP.out).g.cells; obtain ⟨g0, g1, g2, g3⟩ := (HGP.out).g.frozen)
                      | fail)
                    all_goals
                      refine NoPanic.normal ?_
                      go_wp2
                      go_roundg (N - (j + 1))
                      case measure => have := HLT.out; omega
                      case rel => exact ⟨j + 1, A5, c5, gs ++ [wr.heap.size], _, HLT.out, Nat.le_refl _, rfl, ⟨(HGP.out).set2 _⟩, ⟨Kd.R_far HRP.out (p := ⟨w.heap.size, 2, none⟩) (fun k hk he => by have h0 : k = w.heap.size := he; omega) _⟩, ⟨by rw [List.replicate_succ']; exact (HMP.out).far (by omega) _⟩⟩
                  · obtain rfl : N = j := by omega
                    clear hlt hj hgg hmk
                    rw [← (HN7.out).2] at HV
                    have hl3 := HL3.out
                    obtain ⟨n, hn⟩ : ∃ n, L.length = n + 3 := ⟨L.length - 3, by omega⟩
                    have HNL := Aside0.mk hn
                    have HLN := Aside0.mk (show n ≤ 65536 from by have := HLS.out; omega)
                    go_upto_region 22 with (fail)
                    rw [hn]
                    have hz1 : wrap64 ((n : Int) + 3 - 1) = (n : Int) + 2 := by rw [wr_id (by omega) (by have := HLN.out; omega)]; omega
                    have hz2 : (0 : Int) ≤ (n : Int) + 2 ∧ (n : Int) + 2 ≤ (n : Int) + 3 := by omega
                    have hz3 : max ((n : Int) + 2) 0 = (n : Int) + 2 := by omega
                    have hz4 : (2 : Int) ≤ (n : Int) + 2 := by omega
                    have hz5 : ((n : Int) + 2).toNat = n + 2 := by omega
                    go_wp2
                    have HV2 := Aside0.mk (show getV t = (gstep states wd.length ((L.drop 2).take n) (-1) (List.replicate N (List.replicate wd.length []))).map fun M => (wd.map valW, valW x3, M) from by have h0 := HV.out; rw [HNL.out] at h0; exact h0)
                    refine loop26 t w L wd n N bl _ A c A2 c2 (valW x3) states _ _ (List.replicate N (List.replicate wd.length [])) gs u _ _ _ _ _ _ _ _ _ _ _ _ _ _ _ _ _ _ _ _ _ _ _ _ _ _ _ _ _ _ _ _ _ _ _ _ _ _ _ _ _ _ _ _ _ _ _ _ _ _ _ _ _ _ _ _ _ _ _ _ _ _ _ _ _ _ _ _ _ _ _ _ _ _ _ _ _ _ _ _ _ _ _ _ _ _ _ _ _ _ _ _ _ _ _ _ _ _ _ _ _ _ _ _ _ _ _ _ _ _ _ _ _ _ _ _ _ _ _ _ _ _ _ _ _ _ _ _ _ _ _ _ _ _ _ _ _ _ _ _ _ _ _ _ _ _ _ _ _ _ _ _ _ _ _ _ _ _ _ _ _ _ _ _ _ _ _ _ _ _ _ _ _ _ _ _ _ _ _ _ _ _ _ _ _ HSZ HM HCS HWL HNL HLN HN7 HST ⟨List.length_replicate⟩ ⟨fun a b => by simp [List.getD_eq_getElem?_getD, List.getElem?_replicate]; split <;> simp [List.getElem?_replicate]; split <;> simp⟩ HG9 HR9 HMM HV2 ?_
                    clear HG9 HR9 HMM HV2 HV hz1 hz2 hz3 hz4 hz5
                    refine ⟨?_⟩
                    intro u9 u11 u12 u13 u14 u15 u16 u17 u18 u19 u20 u103 u104 u105 u106 u107 u108 u109 u110 u111 u112 u113 u114 u115 u116 u117 u118 u119 u120 u121 u122 u123 u124 u125 u126 u127 u128 u129 u130 u131 u132 u133 u134 u135 u136 u137 u138 u139 u140 u141 u142 u143 u144 u145 u146 u147 u148 u149 u150 u151 u152 u153 u154 u155 u156 u157 u158 u159 u160 u161 u162 u163 u164 u165 u166 u167 u168 u169 u170 u171 u172 u173 u174 u175 u176 u177 u178 u179 u180 u181 u182 u183 u184 u185 u186 W M gs uu hG hR hM hL hVV
                    have HG := Aside0.mk hG
                    have hrd := Kd.R_reads' hR
                    obtain ⟨A2', c2', e, hle, hCM⟩ := hM.reads (by have := HWL.out; omega)
                    injection e with e1 e2 e3
                    subst e1 e3
                    have HCK := Aside0.mk (acheckG_calls (wd.map valW) M (valW x3) A c A2 c2 W hrd.2.2 (by rw [List.length_map]; exact hrd.2.1) hCM)
                    have HR := Aside0.mk hR
                    have HMM := Aside0.mk hM
                    have HL := Aside0.mk hL
                    have HVV := Aside0.mk hVV
                    rw [List.length_map, hL] at HCK
                    obtain ⟨k0, k1, k2, k3⟩ := hG.g.cells
                    clear e2 hG hR hM hrd hle hCM hL hVV
                    cases hq : auB (wd.map valW) (valW x3) M with
                    | false =>
                      rw [chk_false hq] at HCK
                      have HRR := Aside0.mk (show getR t = (10, [], 0, []) by unfold getR; rw [if_neg (by have := HSZ.out; omega), HVV.out]; simp only; rw [if_neg (by rw [chk_false hq]; decide)])
                      clear hq
                      go_wp2_with fail
                      refine (HCK.out).mono ?_
                      rintro E W2 ⟨rfl, hb⟩
                      have HG2 := Aside0.mk ((HG.out).below hb)
                      clear hb k0 k1 k2 k3
                      obtain ⟨k0, k1, k2, k3⟩ := (HG2.out).g.cells
                      obtain ⟨f0, f1, f2, f3⟩ := (HG2.out).g.frozen
                      have HQ := Aside0.mk ((((HG2.out).g.set0 (.slice none 0 0)).set1 (.int .i64 0)).set2 (.slice none 0 0))
                      go_wp2
                      exact get_done (A1 := none) (A2 := none) (c1 := 0) (c2 := 0) (rk := []) (M := []) HRR.out ((HQ.out).hb.setCell (p := ⟨w.heap.size + 1, 0, none⟩) (Nat.le_succ _) _) (blk_far (HQ.out).ha (by show w.heap.size ≠ w.heap.size + 1; omega) _) (blk_set (HQ.out).he 0 _) ⟨rfl, by simp, fun h => absurd h (by simp)⟩ (Nat.le_refl _) ⟨rfl, by simp, fun h => absurd h (by simp)⟩ (Nat.le_refl _) _ rfl rfl
                    | true =>
                      rw [chk_true hq] at HCK
                      have HRR := Aside0.mk (show getR t = (0, wd.map valW, valW x3, M) by unfold getR; rw [if_neg (by have := HSZ.out; omega), HVV.out]; simp only; rw [if_pos (chk_true hq)])
                      clear hq
                      go_wp2_with fail
                      refine (HCK.out).mono ?_
                      rintro E W2 ⟨rfl, hb⟩
                      have HG2 := Aside0.mk ((HG.out).below hb)
                      have HR2 := Aside0.mk (Kd.R_below HR.out hb)
                      have HM2 := Aside0.mk ((HMM.out).below hb)
                      clear hb k0 k1 k2 k3
                      obtain ⟨k0, k1, k2, k3⟩ := (HG2.out).g.cells
                      obtain ⟨f0, f1, f2, f3⟩ := (HG2.out).g.frozen
                      have HQ := Aside0.mk ((((HG2.out).g.set0 (.slice A wd.length c)).set1 (.int .i64 (valW x3))).set2 (.slice A2 N c2))
                      have HR3 := Aside0.mk (fun (a : Nat) (ha : a < w.heap.size + 2) (o : Nat) (y : Value) (W3 : World) (h3 : Kd.R (Kd.int .i64) 3 W3 w.heap.size (fun k => w.heap.size + 2 ≤ k) (.slice A wd.length c) (wd.map valW)) => Kd.R_far h3 (p := ⟨a, o, none⟩) (fun k hk he => by have h0 : k = a := he; omega) y)
                      have HM3 := Aside0.mk (fun (a : Nat) (ha : a < w.heap.size + 2) (o : Nat) (y : Value) (W3 : World) (h3 : MM w.heap.size (w.heap.size + 2) W3 (.slice A2 N c2) M wd.length gs uu) => h3.far (a := a) (j := o) ha y)
                      go_wp2
                      have hr := Kd.R_reads' (HR3.out (w.heap.size + 1) (by omega) 0 (.int .i64 0) _ (HR3.out w.heap.size (by omega) 2 (.slice A2 N c2) _ (HR3.out w.heap.size (by omega) 1 (.int .i64 (valW x3)) _ (HR3.out w.heap.size (by omega) 0 (.slice A wd.length c) _ HR2.out))))
                      have hm := HM3.out (w.heap.size + 1) (by omega) 0 (.int .i64 0) _ (HM3.out w.heap.size (by omega) 2 (.slice A2 N c2) _ (HM3.out w.heap.size (by omega) 1 (.int .i64 (valW x3)) _ (HM3.out w.heap.size (by omega) 0 (.slice A wd.length c) _ HM2.out)))
                      obtain ⟨A2', c2', e, hle, hCM⟩ := hm.reads (by have := HWL.out; omega)
                      injection e with e1 e2 e3
                      subst e1 e3
                      exact get_done (A1 := A) (A2 := A2) (c1 := c) (c2 := c2) (rk := wd.map valW) (M := M) HRR.out ((HQ.out).hb.setCell (p := ⟨w.heap.size + 1, 0, none⟩) (Nat.le_succ _) _) (by rw [List.length_map, HL.out]; exact blk_far (HQ.out).ha (by show w.heap.size ≠ w.heap.size + 1; omega) _) (blk_set (HQ.out).he 0 _) hr.2.2 (by rw [List.length_map]; exact hr.2.1) hCM hle _ rfl rfl
            · have h3z : ¬ (((ws2.drop 1).length : Int) = 3) := by omega
              have HN := Aside0.mk (HV6.out (by
                unfold secOk
                split
                · rename_i h; rw [h] at h3; exact absurd rfl h3
                · rfl))
              generalize (ws2.drop 1).length = nn at *
              go_wp2
              exact get_panic (getR_bad HSZ.out HN.out) (HG5.out).g _ rfl rfl
end Go.Proofs.YtbmcigakiibncaaGreatDoor.H
namespace Go.Proofs.YtbmcigakiibncaaGreatDoor.H
open Go.RowKit Go.Proofs.YtbmcigakiibncaaGreatDoorW.PrintWords Go.Proofs.YtbmcigakiibncaaGreatDoorW.PrintLast Go.Proofs.YtbmcigakiibncaaGreatDoorW.PrintMore
open Go.Proofs.YtbmcigakiibncaaGreatDoor.Q (S28 k28)
set_option linter.unusedVariables false
set_option linter.unusedSimpArgs false
def exT : ByteArray := ⟨#[114, 97, 110, 107, 115, 32, 50, 32, 49, 32, 48, 10, 115, 116, 97, 116, 101, 115, 32, 49, 32, 115, 116, 97, 114, 116, 32, 48, 10, 48, 32, 48, 58, 32, 48, 46, 48, 32, 49, 46, 48, 10, 48, 32, 50, 58, 10]⟩
def rk0 : List Int := [2, 1, 0]
def M0 : Mv := [[[[⟨0, 0⟩, ⟨1, 0⟩]], [], [[]]]]
def D0 : Mv := [[[[⟨0, 0⟩], [⟨1, 0⟩]], [[]], []]]
def c0T : S28 := ⟨2, []⟩
def b0T : S28 := ⟨1, [⟨2, []⟩]⟩
def exD : List UInt8 := [114, 97, 110, 107, 115, 32, 50, 32, 49, 32, 48, 10, 115, 116, 97, 116, 101, 115, 32, 49, 32, 115, 116, 97, 114, 116, 32, 48, 10, 48, 32, 48, 58, 32, 48, 46, 48, 10, 48, 32, 48, 58, 32, 49, 46, 48, 10, 48, 32, 49, 58, 10]
theorem ex_get : getR exT = (0, rk0, 0, M0) := by kernel_rfl
theorem ex_dual : dualR rk0 0 M0 = (0, rk0, 0, D0) := by kernel_rfl
theorem ex_put : putR rk0 0 D0 = (exD, 0) := by kernel_rfl
theorem ex_is1 : isV rk0 0 M0 0 c0T = true ∧ stErr rk0 0 M0 0 c0T = 0 := ⟨by kernel_rfl, by kernel_rfl⟩
theorem ex_is2 : isV rk0 0 M0 0 b0T = false ∧ stErr rk0 0 M0 0 b0T = 0 := ⟨by kernel_rfl, by kernel_rfl⟩
theorem ex_is3 : isV rk0 0 D0 1 b0T = true ∧ stErr rk0 0 D0 1 b0T = 0 := ⟨by kernel_rfl, by kernel_rfl⟩
theorem get0_calls (w : World) (hm : MX w) : Calls Tryz.prog 26 #[.string exT] w fun E w' => ∃ A1 c1 A2 c2, E = .returned (.tuple #[.agg #[.slice A1 rk0.length c1, .int .i64 0, .slice A2 M0.length c2], .int .i64 0]) ∧ Kd.C (Kd.int .i64) w' A1 rk0.length rk0 ∧ rk0.length ≤ c1 ∧ Kd.C kA3 w' A2 M0.length M0 ∧ Below w.heap.size w w' := by
  refine (get_calls exT w hm).mono ?_
  intro E w' h
  unfold GetE at h
  rw [ex_get] at h
  obtain ⟨A1, c1, A2, c2, rfl, h1, h2, h3, h4, h5⟩ := h
  exact ⟨A1, c1, A2, c2, rfl, h1, h2, h3, h5⟩
theorem dual0_calls (A1 : Option Addr) (c1 : Nat) (A2 : Option Addr) (c2 : Nat) (w : World) (hr : Kd.C (Kd.int .i64) w A1 rk0.length rk0) (hc1 : rk0.length ≤ c1) (hM : Kd.C kA3 w A2 M0.length M0) (ht : TabD w) :
    Calls Tryz.prog 21 #[.agg #[.slice A1 rk0.length c1, .int .i64 0, .slice A2 M0.length c2]] w fun E w' => ∃ A1 c1 A2 c2, E = .returned (.tuple #[.agg #[.slice A1 rk0.length c1, .int .i64 0, .slice A2 D0.length c2], .int .i64 0]) ∧ Kd.C (Kd.int .i64) w' A1 rk0.length rk0 ∧ rk0.length ≤ c1 ∧ Kd.C kA3 w' A2 D0.length D0 ∧ Below w.heap.size w w' := by
  refine (adual_calls rk0 M0 0 A1 c1 A2 c2 w hr hc1 hM ht).mono ?_
  intro E w' h
  unfold DualRE at h
  rw [ex_dual] at h
  obtain ⟨v1, v2, rfl, h1, h2, h3⟩ := h
  obtain ⟨A3, c3, rfl⟩ := Kd.R_slice h1
  obtain ⟨A4, c4, rfl⟩ := Kd.R_slice h2
  have r1 := Kd.R_reads' h1
  have r2 := Kd.R_reads' h2
  exact ⟨A3, c3, A4, c4, rfl, r1.2.2, r1.2.1, r2.2.2, h3⟩
theorem C_nilT (w : World) : Kd.C k28 w none 0 [] := ⟨rfl, by simp, fun h => absurd h (by simp)⟩
theorem C_oneT {w : World} {g : Nat} {f0 : Int} (h : w.heap[g]? = some (.cells #[.int .i64 f0, .slice none 0 0] 28 (0, 0))) : Kd.C k28 w (some ⟨g, 0, none⟩) 1 [⟨f0, []⟩] := by
  refine ⟨rfl, by simp, fun _ => ⟨_, rfl, fun j p hj => ?_⟩⟩
  have hj0 : j = 0 := by
    have := (List.getElem?_eq_some_iff.1 hj).1
    simpa using this
  subst hj0
  obtain rfl : (⟨f0, []⟩ : S28) = p := by simpa using hj
  refine ⟨[.int .i64 f0, .slice none 0 0], rfl, Q.k28_mk w ⟨f0, []⟩ (A1 := none) (c1 := 0) (Nat.le_refl _) (C_nilT w), fun i u hu => ?_⟩
  rw [show (Addr.add ⟨g, 0, none⟩ (0 * k28.sz + i)) = ⟨g, i, none⟩ by rw [Nat.zero_mul, Nat.zero_add]; simp [Addr.add]; exact fun e => e.symm, blk_cell h i]
  match i, hu with
  | 0, hu => simpa using hu
  | 1, hu => simpa using hu
  | i + 2, hu => simp at hu
theorem box3_of {W : World} {b : Nat} {x y z : Value} (h : W.heap[b]? = some (.cells #[x, y, z] 25 (0, 0))) : W.cell? ⟨b, 0, none⟩ = some x ∧ W.cell? ⟨b, 1, none⟩ = some y ∧ W.cell? ⟨b, 2, none⟩ = some z := ⟨(blk_cell h 0).trans rfl, (blk_cell h 1).trans rfl, (blk_cell h 2).trans rfl⟩
theorem box2_of {W : World} {b : Nat} {x y : Value} (h : W.heap[b]? = some (.cells #[x, y] 28 (0, 0))) : W.cell? ⟨b, 0, none⟩ = some x ∧ W.cell? ⟨b, 1, none⟩ = some y := ⟨(blk_cell h 0).trans rfl, (blk_cell h 1).trans rfl⟩
theorem exD_list : (⟨exD.toArray⟩ : ByteArray).toList = exD := by rw [Lib.toList_data]
theorem is1_calls (A1 : Option Addr) (c1 : Nat) (A2 : Option Addr) (c2 : Nat) (w : World) (hr : Kd.C (Kd.int .i64) w A1 rk0.length rk0) (hc1 : rk0.length ≤ c1) (hM : Kd.C kA3 w A2 M0.length M0) (hT : Tab w) :
    Calls Tryz.prog 15 #[.agg #[.slice A1 rk0.length c1, .int .i64 0, .slice A2 M0.length c2], .int .i64 0, .agg #[.int .i64 2, .slice none 0 0]] w fun E w' => E = .returned (.tuple #[.bool true, .int .i64 0]) ∧ Below w.heap.size w w' := by
  have h := aisG_calls rk0 M0 0 0 c0T A1 c1 A2 c2 none 0 w hr hc1 hM (C_nilT w) (Nat.le_refl _) hT
  rw [ex_is1.1, ex_is1.2] at h
  exact h
theorem is2_calls (A1 : Option Addr) (c1 : Nat) (A2 : Option Addr) (c2 : Nat) (g : Nat) (w : World) (hr : Kd.C (Kd.int .i64) w A1 rk0.length rk0) (hc1 : rk0.length ≤ c1) (hM : Kd.C kA3 w A2 M0.length M0) (hg : w.heap[g]? = some (.cells #[.int .i64 2, .slice none 0 0] 28 (0, 0))) (hT : Tab w) :
    Calls Tryz.prog 15 #[.agg #[.slice A1 rk0.length c1, .int .i64 0, .slice A2 M0.length c2], .int .i64 0, .agg #[.int .i64 1, .slice (some ⟨g, 0, none⟩) 1 1]] w fun E w' => E = .returned (.tuple #[.bool false, .int .i64 0]) ∧ Below w.heap.size w w' := by
  have h := aisG_calls rk0 M0 0 0 b0T A1 c1 A2 c2 (some ⟨g, 0, none⟩) 1 w hr hc1 hM (C_oneT hg) (Nat.le_refl _) hT
  rw [ex_is2.1, ex_is2.2] at h
  exact h
theorem is3_calls (A1 : Option Addr) (c1 : Nat) (A2 : Option Addr) (c2 : Nat) (g : Nat) (w : World) (hr : Kd.C (Kd.int .i64) w A1 rk0.length rk0) (hc1 : rk0.length ≤ c1) (hM : Kd.C kA3 w A2 D0.length D0) (hg : w.heap[g]? = some (.cells #[.int .i64 2, .slice none 0 0] 28 (0, 0))) (hT : Tab w) :
    Calls Tryz.prog 15 #[.agg #[.slice A1 rk0.length c1, .int .i64 0, .slice A2 D0.length c2], .int .i64 1, .agg #[.int .i64 1, .slice (some ⟨g, 0, none⟩) 1 1]] w fun E w' => E = .returned (.tuple #[.bool true, .int .i64 0]) ∧ Below w.heap.size w w' := by
  have h := aisG_calls rk0 D0 0 1 b0T A1 c1 A2 c2 (some ⟨g, 0, none⟩) 1 w hr hc1 hM (C_oneT hg) (Nat.le_refl _) hT
  rw [ex_is3.1, ex_is3.2] at h
  exact h
theorem put0_calls (A1 : Option Addr) (c1 : Nat) (A2 : Option Addr) (c2 : Nat) (w : World) (hr : Kd.C (Kd.int .i64) w A1 rk0.length rk0) (hc1 : rk0.length ≤ c1) (hM : Kd.C kA3 w A2 D0.length D0) :
    Calls Tryz.prog 24 #[.agg #[.slice A1 rk0.length c1, .int .i64 0, .slice A2 D0.length c2]] w fun E w' => E = .returned (.tuple #[.string ⟨exD.toArray⟩, .int .i64 0]) ∧ Below w.heap.size w w' := by
  refine (put_calls rk0 D0 0 A1 c1 A2 c2 w hr hc1 hM).mono ?_
  intro E w' h
  unfold PutE at h
  rw [ex_put] at h
  exact h
set_option maxHeartbeats 16000000 in
set_option maxRecDepth 100000 in
theorem alive_calls (w : World) (hm : MX w) (ht : TabD w) : Calls Tryz.prog 18 #[] w fun E w' => E = .returned (.bool true) ∧ Below w.heap.size w w' := by
  have HG := Aside0.mk (get0_calls w hm)
  have HT := Aside0.mk ht
  unfold exT at HG
  clear hm ht
  go_enter Tryz.func18, Tryz.ntmps18
  go_wp2_with fail
  refine (HG.out).mono ?_
  rintro E W1 ⟨A1, c1, A2, c2, rfl, hr1, hc1, hM1, hb1⟩
  have HB1 := Aside0.mk hb1
  have HR1 := Aside0.mk hr1
  have HC1 := Aside0.mk hc1
  have HM1 := Aside0.mk hM1
  have hba := below_alloc (Below.refl W1.heap.size W1) (.cells #[.slice A1 rk0.length c1, .int .i64 0, .slice A2 M0.length c2] 25)
  have HX1 := Aside0.mk (blk_new W1 (.cells #[.slice A1 rk0.length c1, .int .i64 0, .slice A2 M0.length c2] 25))
  have HB2 := Aside0.mk (below_then hb1 hb1.size hba)
  have HR2 := Aside0.mk (Kd.C_below hr1 hba)
  have HM2 := Aside0.mk (Kd.C_below hM1 hba)
  clear hr1 hc1 hM1 hb1 hba HG HR1 HM1
  go_upto_region 2 with (fail)
  generalize W1.alloc (.cells #[.slice A1 rk0.length c1, .int .i64 0, .slice A2 M0.length c2] 25) = W2 at *
  generalize W1.heap.size = b1 at *
  obtain ⟨k0, k1, k2⟩ := box3_of HX1.out
  have HDU := Aside0.mk (dual0_calls A1 c1 A2 c2 W2 HR2.out HC1.out HM2.out ((HT.out).below HB2.out))
  go_wp2_with fail
  refine (HDU.out).mono ?_
  rintro E W3 ⟨A3, c3, A4, c4, rfl, hr3, hc3, hM3, hb3⟩
  have hba := below_alloc (Below.refl W3.heap.size W3) (.cells #[.slice A3 rk0.length c3, .int .i64 0, .slice A4 D0.length c4] 25)
  have hb4 := below_then hb3 hb3.size hba
  have HB4 := Aside0.mk (below_then HB2.out (HB2.out).size hb4)
  have HX1' := Aside0.mk (blk_below HX1.out hb4)
  have HR4 := Aside0.mk (Kd.C_below HR2.out hb4)
  have HM4 := Aside0.mk (Kd.C_below HM2.out hb4)
  have HX3 := Aside0.mk (blk_new W3 (.cells #[.slice A3 rk0.length c3, .int .i64 0, .slice A4 D0.length c4] 25))
  have HC3 := Aside0.mk hc3
  have HS4 := Aside0.mk (Kd.C_below hr3 hba)
  have HN4 := Aside0.mk (Kd.C_below hM3 hba)
  clear hr3 hc3 hM3 hb3 hba hb4 k0 k1 k2 HDU HX1 HR2 HM2 HB2
  go_upto_region 3 with (fail)
  generalize W3.alloc (.cells #[.slice A3 rk0.length c3, .int .i64 0, .slice A4 D0.length c4] 25) = W4 at *
  generalize W3.heap.size = b3 at *
  have hba := below_alloc (below_alloc (below_alloc (Below.refl W4.heap.size W4) (.cells #[.int .i64 2, .slice none 0 0] 28)) (.cells #[.int .i64 2, .slice none 0 0] 28)) (.cells #[.int .i64 1, .slice (some ⟨W4.heap.size + 1, 0, none⟩) 1 1] 28)
  have h5 := blk_alloc (blk_alloc (blk_new W4 (.cells #[.int .i64 2, .slice none 0 0] 28)) (.cells #[.int .i64 2, .slice none 0 0] 28)) (.cells #[.int .i64 1, .slice (some ⟨W4.heap.size + 1, 0, none⟩) 1 1] 28)
  have h6 := blk_alloc (blk_at2 W4 (.cells #[.int .i64 2, .slice none 0 0] 28) (.cells #[.int .i64 2, .slice none 0 0] 28)) (.cells #[.int .i64 1, .slice (some ⟨W4.heap.size + 1, 0, none⟩) 1 1] 28)
  have h7 := blk_new ((W4.alloc (.cells #[.int .i64 2, .slice none 0 0] 28)).alloc (.cells #[.int .i64 2, .slice none 0 0] 28)) (.cells #[.int .i64 1, .slice (some ⟨W4.heap.size + 1, 0, none⟩) 1 1] 28)
  have k5 := box2_of (blk_new W4 (.cells #[.int .i64 2, .slice none 0 0] 28))
  obtain ⟨k50, k51⟩ := k5
  have HB5 := Aside0.mk (below_then HB4.out (HB4.out).size hba)
  have HX5 := Aside0.mk (blk_below HX1'.out hba)
  have HY5 := Aside0.mk (blk_below HX3.out hba)
  have HR5 := Aside0.mk (Kd.C_below HR4.out hba)
  have HM5 := Aside0.mk (Kd.C_below HM4.out hba)
  have HS5 := Aside0.mk (Kd.C_below HS4.out hba)
  have HN5 := Aside0.mk (Kd.C_below HN4.out hba)
  have HT5 := Aside0.mk h5
  have HT6 := Aside0.mk h6
  rw [show ((W4.alloc (.cells #[.int .i64 2, .slice none 0 0] 28)).alloc (.cells #[.int .i64 2, .slice none 0 0] 28)).heap.size = W4.heap.size + 1 + 1 by simp] at h7
  have HT7 := Aside0.mk h7
  clear hba h5 h6 h7
  go_upto_region 5 with (fail)
  clear k50 k51
  generalize (((W4.alloc (.cells #[.int .i64 2, .slice none 0 0] 28)).alloc (.cells #[.int .i64 2, .slice none 0 0] 28)).alloc (.cells #[.int .i64 1, .slice (some ⟨W4.heap.size + 1, 0, none⟩) 1 1] 28)) = W5 at *
  generalize W4.heap.size = g at *
  have HI1 := Aside0.mk (fun (W : World) (hb : Below W5.heap.size W5 W) => is1_calls A1 c1 A2 c2 W (Kd.C_below HR5.out hb) HC1.out (Kd.C_below HM5.out hb) ((HT.out).tab.below (below_then HB5.out (HB5.out).size hb)))
  have HI2 := Aside0.mk (fun (W : World) (hb : Below W5.heap.size W5 W) => is2_calls A1 c1 A2 c2 (g + 1) W (Kd.C_below HR5.out hb) HC1.out (Kd.C_below HM5.out hb) (blk_below HT6.out hb) ((HT.out).tab.below (below_then HB5.out (HB5.out).size hb)))
  have HI3 := Aside0.mk (fun (W : World) (hb : Below W5.heap.size W5 W) => is3_calls A3 c3 A4 c4 (g + 1) W (Kd.C_below HS5.out hb) HC3.out (Kd.C_below HN5.out hb) (blk_below HT6.out hb) ((HT.out).tab.below (below_then HB5.out (HB5.out).size hb)))
  have HPU := Aside0.mk (fun (W : World) (hb : Below W5.heap.size W5 W) => put0_calls A3 c3 A4 c4 W (Kd.C_below HS5.out hb) HC3.out (Kd.C_below HN5.out hb))
  obtain ⟨k10, k11, k12⟩ := box3_of HX5.out
  obtain ⟨k50, k51⟩ := box2_of HT5.out
  go_wp2_with fail
  refine (HI1.out _ (Below.refl _ _)).mono ?_
  rintro E W6 ⟨rfl, hb6⟩
  have HB6 := Aside0.mk hb6
  clear k10 k11 k12 k50 k51 hb6
  obtain ⟨k10, k11, k12⟩ := box3_of (blk_below HX5.out HB6.out)
  obtain ⟨k60, k61⟩ := box2_of (blk_below HT7.out HB6.out)
  go_wp2_with fail
  refine (HI2.out _ HB6.out).mono ?_
  rintro E W7 ⟨rfl, hb7⟩
  have HB7 := Aside0.mk (below_then HB6.out (HB6.out).size hb7)
  clear k10 k11 k12 k60 k61 hb7
  obtain ⟨k10, k11, k12⟩ := box3_of (blk_below HY5.out HB7.out)
  obtain ⟨k60, k61⟩ := box2_of (blk_below HT7.out HB7.out)
  go_wp2_with fail
  refine (HI3.out _ HB7.out).mono ?_
  rintro E W8 ⟨rfl, hb8⟩
  have HB8 := Aside0.mk (below_then HB7.out (HB7.out).size hb8)
  clear k10 k11 k12 k60 k61 hb8
  obtain ⟨k10, k11, k12⟩ := box3_of (blk_below HY5.out HB8.out)
  go_wp2_with fail
  refine (HPU.out _ HB8.out).mono ?_
  rintro E W9 ⟨rfl, hb9⟩
  have HB9 := Aside0.mk (below_then HB5.out (HB5.out).size (below_then HB8.out (HB8.out).size hb9))
  have hex := exD_list
  unfold exD at hex ⊢
  clear k10 k11 k12 hb9
  go_wp2
  go_ret
  exact ⟨rfl, HB9.out⟩
end Go.Proofs.YtbmcigakiibncaaGreatDoor.H
namespace Go.Proofs.YtbmcigakiibncaaGreatDoor.H
open Go.RowKit Go.Proofs.YtbmcigakiibncaaGreatDoorW.PrintWords Go.Proofs.YtbmcigakiibncaaGreatDoorW.PrintLast Go.Proofs.YtbmcigakiibncaaGreatDoorW.PrintMore
set_option linter.unusedVariables false
set_option linter.unusedSimpArgs false
structure TX2 (w : World) (x y z x' y' z' : Value) (W : World) : Prop where
  hb : Below w.heap.size w W
  box : W.heap[w.heap.size]? = some (.cells #[x, y, z] 25 (0, 0))
  box' : W.heap[w.heap.size + 1]? = some (.cells #[x', y', z'] 25 (0, 0))
theorem TX2.below {w W W1 : World} {x y z x' y' z' : Value} (h : TX2 w x y z x' y' z' W) (hb : Below W.heap.size W W1) : TX2 w x y z x' y' z' W1 :=
  ⟨below_then h.hb h.hb.size hb, blk_below h.box hb, blk_below h.box' hb⟩
theorem TX2.start (w : World) (x y z x' y' z' : Value) : TX2 w x y z x' y' z' ((w.alloc (.cells #[x, y, z] 25)).alloc (.cells #[x', y', z'] 25)) :=
  ⟨below_alloc (below_alloc (Below.refl w.heap.size w) _) _, blk_alloc (blk_new w _) _, blk_at2 w _ _⟩
set_option maxHeartbeats 8000000 in
set_option maxRecDepth 100000 in
theorem asame_calls (rk : List Int) (M : Mv) (st : Int) (A1 : Option Addr) (c1 : Nat) (A2 : Option Addr) (c2 : Nat) (rk' : List Int) (M' : Mv) (st' : Int) (B1 : Option Addr) (d1 : Nat) (B2 : Option Addr) (d2 : Nat) (w : World)
    (hr : Kd.C (Kd.int .i64) w A1 rk.length rk) (hc1 : rk.length ≤ c1) (hM : Kd.C kA3 w A2 M.length M) (hc2 : M.length ≤ c2)
    (hr' : Kd.C (Kd.int .i64) w B1 rk'.length rk') (hd1 : rk'.length ≤ d1) (hM' : Kd.C kA3 w B2 M'.length M') (hd2 : M'.length ≤ d2) :
    Calls Tryz.prog 32 #[.agg #[.slice A1 rk.length c1, .int .i64 st, .slice A2 M.length c2], .agg #[.slice B1 rk'.length d1, .int .i64 st', .slice B2 M'.length d2]] w fun e w' => e = .returned (.bool (sameB rk st M rk' st' M')) ∧ Below w.heap.size w w' := by
  have hmf := run_mkfun
  have HC1 := Aside0.mk fun W (hW : Below w.heap.size w W) => acheckG_calls rk M st A1 c1 A2 c2 W (Kd.C_below hr hW) hc1 (Kd.C_below hM hW)
  have HC2 := Aside0.mk fun W (hW : Below w.heap.size w W) => acheckG_calls rk' M' st' B1 d1 B2 d2 W (Kd.C_below hr' hW) hd1 (Kd.C_below hM' hW)
  have HE := Aside0.mk fun W (hW : Below w.heap.size w W) => eqI_calls A1 c1 rk B1 d1 rk' W (Kd.C_below hr hW) hc1 (Kd.C_below hr' hW) hd1
  have HF := Aside0.mk fun W (hW : Below w.heap.size w W) => eqf80_calls A2 c2 M B2 d2 M' W (Kd.C_below hM hW) hc2 (Kd.C_below hM' hW) hd2
  have HS := Aside0.mk (TX2.start w (.slice A1 rk.length c1) (.int .i64 st) (.slice A2 M.length c2) (.slice B1 rk'.length d1) (.int .i64 st') (.slice B2 M'.length d2))
  have HV := Aside0.mk (show sameB rk st M rk' st' M' = (auB rk st M && (auB rk' st' M' && (eqI rk rk' && (decide (st = st') && eq4 M M')))) from rfl)
  clear hr hc1 hM hc2 hr' hd1 hM' hd2
  generalize sameB rk st M rk' st' M' = R at *
  go_enter Tryz.func32, Tryz.ntmps32
  go_upto_region 1 with (fail)
  generalize ((w.alloc (.cells #[.slice A1 rk.length c1, .int .i64 st, .slice A2 M.length c2] 25)).alloc (.cells #[.slice B1 rk'.length d1, .int .i64 st', .slice B2 M'.length d2] 25)) = W1 at *
  have k0 : W1.cell? ⟨w.heap.size, 0, none⟩ = some (.slice A1 rk.length c1) := (blk_cell (HS.out).box 0).trans rfl
  have k1 : W1.cell? ⟨w.heap.size, 1, none⟩ = some (.int .i64 st) := (blk_cell (HS.out).box 1).trans rfl
  have k2 : W1.cell? ⟨w.heap.size, 2, none⟩ = some (.slice A2 M.length c2) := (blk_cell (HS.out).box 2).trans rfl
  go_wp2_with fail
  refine (HC1.out _ (HS.out).hb).mono ?_
  rintro E W2 ⟨rfl, hb⟩
  have HS2 := Aside0.mk ((HS.out).below hb)
  clear hb HS k0 k1 k2 HC1
  cases h1 : auB rk st M with
  | false =>
    rw [chk_false h1]
    have HP := Aside0.mk (show R = false by rw [HV.out, h1]; rfl)
    clear h1 HV
    go_wp2
    go_ret
    exact ⟨by rw [HP.out]; rfl, (HS2.out).hb⟩
  | true =>
  rw [chk_true h1]
  rw [h1, Bool.true_and] at HV
  clear h1
  have k0 : W2.cell? ⟨w.heap.size + 1, 0, none⟩ = some (.slice B1 rk'.length d1) := (blk_cell (HS2.out).box' 0).trans rfl
  have k1 : W2.cell? ⟨w.heap.size + 1, 1, none⟩ = some (.int .i64 st') := (blk_cell (HS2.out).box' 1).trans rfl
  have k2 : W2.cell? ⟨w.heap.size + 1, 2, none⟩ = some (.slice B2 M'.length d2) := (blk_cell (HS2.out).box' 2).trans rfl
  go_wp2_with fail
  refine (HC2.out _ (HS2.out).hb).mono ?_
  rintro E W3 ⟨rfl, hb⟩
  have HS3 := Aside0.mk ((HS2.out).below hb)
  clear hb HS2 k0 k1 k2 HC2
  cases h2 : auB rk' st' M' with
  | false =>
    rw [chk_false h2]
    have HP := Aside0.mk (show R = false by rw [HV.out, h2]; rfl)
    clear h2 HV
    go_wp2
    go_ret
    exact ⟨by rw [HP.out]; rfl, (HS3.out).hb⟩
  | true =>
  rw [chk_true h2]
  rw [h2, Bool.true_and] at HV
  clear h2
  have k1 : W3.cell? ⟨w.heap.size, 1, none⟩ = some (.int .i64 st) := (blk_cell (HS3.out).box 1).trans rfl
  have k3 : W3.cell? ⟨w.heap.size + 1, 1, none⟩ = some (.int .i64 st') := (blk_cell (HS3.out).box' 1).trans rfl
  cases h3 : (st != st') with
  | true =>
    have HP := Aside0.mk (show R = false by rw [HV.out, show decide (st = st') = false by simpa using h3]; simp)
    clear HV
    go_wp2
    go_ret
    exact ⟨by rw [HP.out]; rfl, (HS3.out).hb⟩
  | false =>
  have h3' : decide (st = st') = true := by simpa using h3
  rw [h3', Bool.true_and] at HV
  have k0 : W3.cell? ⟨w.heap.size, 0, none⟩ = some (.slice A1 rk.length c1) := (blk_cell (HS3.out).box 0).trans rfl
  have k4 : W3.cell? ⟨w.heap.size + 1, 0, none⟩ = some (.slice B1 rk'.length d1) := (blk_cell (HS3.out).box' 0).trans rfl
  go_wp2_with fail
  refine (HE.out _ (HS3.out).hb).mono ?_
  rintro E W4 ⟨rfl, hb⟩
  have HS4 := Aside0.mk ((HS3.out).below hb)
  clear hb HS3 k0 k1 k3 k4 HE
  cases h4 : eqI rk rk' with
  | false =>
    have HP := Aside0.mk (show R = false by rw [HV.out, h4]; rfl)
    clear HV
    go_wp2
    go_ret
    exact ⟨by rw [HP.out]; rfl, (HS4.out).hb⟩
  | true =>
  rw [h4, Bool.true_and] at HV
  have k2 : W4.cell? ⟨w.heap.size, 2, none⟩ = some (.slice A2 M.length c2) := (blk_cell (HS4.out).box 2).trans rfl
  have k5 : W4.cell? ⟨w.heap.size + 1, 2, none⟩ = some (.slice B2 M'.length d2) := (blk_cell (HS4.out).box' 2).trans rfl
  go_wp2_with fail
  refine (HF.out _ (HS4.out).hb).mono ?_
  rintro E W5 ⟨rfl, hb⟩
  have HS5 := Aside0.mk ((HS4.out).below hb)
  clear hb HS4
  go_wp2
  go_ret
  exact ⟨by rw [HV.out]; rfl, (HS5.out).hb⟩
end Go.Proofs.YtbmcigakiibncaaGreatDoor.H
namespace Go.Proofs.YtbmcigakiibncaaGreatDoor.H
open Go.RowKit Go.Proofs.YtbmcigakiibncaaGreatDoorW.PrintWords Go.Proofs.YtbmcigakiibncaaGreatDoorW.PrintLast Go.Proofs.YtbmcigakiibncaaGreatDoorW.PrintMore
set_option linter.unusedVariables false
set_option linter.unusedSimpArgs false
theorem sameRanks_calls (A : Option Addr) (c : Nat) (a : List Int) (B : Option Addr) (d : Nat) (b : List Int) (w : World) (hA : Kd.C (Kd.int .i64) w A a.length a) (hc : a.length ≤ c) (hB : Kd.C (Kd.int .i64) w B b.length b) (hd : b.length ≤ d) :
    Calls Tryz.prog 67 #[.slice A a.length c, .slice B b.length d] w fun e w' => e = .returned (.bool (eqI a b)) ∧ Below w.heap.size w w' := by
  obtain ⟨k, hk⟩ := (sameRanks_ev a b hA.2.1).rounds
  exact (Q.virgationref09_SameRanks.calls k A c a B d b _ w hA hc hB hd hk).mono fun e w' h => ⟨h.1, by first | exact h.2 | exact h.2.below⟩
theorem eqMoves_calls (A : Option Addr) (c : Nat) (a : List (List Nd)) (B : Option Addr) (d : Nat) (b : List (List Nd)) (w : World) (hA : Kd.C kA1 w A a.length a) (hc : a.length ≤ c) (hB : Kd.C kA1 w B b.length b) (hd : b.length ≤ d) :
    Calls Tryz.prog 68 #[.slice A a.length c, .slice B b.length d] w fun e w' => e = .returned (.bool (eq2 a b)) ∧ Below w.heap.size w w' := by
  obtain ⟨k, hk⟩ := (eqMoves_ev a b hA.2.1 (fun x hx => by obtain ⟨A1, h1⟩ := C_kids hA hx; exact h1.2.1)).rounds
  exact (Q.virgationref09_EqualMoves.calls k A c a B d b _ w hA hc hB hd hk).mono fun e w' h => ⟨h.1, by first | exact h.2 | exact h.2.below⟩
set_option maxHeartbeats 16000000 in
set_option maxRecDepth 100000 in
theorem rsame_calls (rk : List Int) (M : Mv) (st : Int) (A1 : Option Addr) (c1 : Nat) (A2 : Option Addr) (c2 : Nat) (rk' : List Int) (M' : Mv) (st' : Int) (B1 : Option Addr) (d1 : Nat) (B2 : Option Addr) (d2 : Nat) (w : World)
    (hr : Kd.C (Kd.int .i64) w A1 rk.length rk) (hc1 : rk.length ≤ c1) (hM : Kd.C kA3 w A2 M.length M) (hc2 : M.length ≤ c2)
    (hr' : Kd.C (Kd.int .i64) w B1 rk'.length rk') (hd1 : rk'.length ≤ d1) (hM' : Kd.C kA3 w B2 M'.length M') (hd2 : M'.length ≤ d2) :
    Calls Tryz.prog 28 #[.agg #[.slice A1 rk.length c1, .int .i64 st, .slice A2 M.length c2], .agg #[.slice B1 rk'.length d1, .int .i64 st', .slice B2 M'.length d2]] w fun e w' => e = .returned (.bool (sameB rk st M rk' st' M')) ∧ Below w.heap.size w w' := by
  have HC1 := Aside0.mk fun W (hW : Below w.heap.size w W) => isA_calls rk M st A1 c1 A2 c2 W (Kd.C_below hr hW) hc1 (Kd.C_below hM hW) hc2
  have HC2 := Aside0.mk fun W (hW : Below w.heap.size w W) => isA_calls rk' M' st' B1 d1 B2 d2 W (Kd.C_below hr' hW) hd1 (Kd.C_below hM' hW) hd2
  have HE := Aside0.mk fun W (hW : Below w.heap.size w W) => sameRanks_calls A1 c1 rk B1 d1 rk' W (Kd.C_below hr hW) hc1 (Kd.C_below hr' hW) hd1
  have HM := Aside0.mk hM
  have HM' := Aside0.mk hM'
  have HS := Aside0.mk (TX2.start w (.slice A1 rk.length c1) (.int .i64 st) (.slice A2 M.length c2) (.slice B1 rk'.length d1) (.int .i64 st') (.slice B2 M'.length d2))
  have HV := Aside0.mk (show sameB rk st M rk' st' M' = (auB rk st M && (auB rk' st' M' && (eqI rk rk' && (decide (st = st') && eq4 M M')))) from rfl)
  clear hr hc1 hM hc2 hr' hd1 hM' hd2
  generalize sameB rk st M rk' st' M' = R at *
  go_enter Tryz.func28, Tryz.ntmps28
  go_upto_region 1 with (fail)
  generalize ((w.alloc (.cells #[.slice A1 rk.length c1, .int .i64 st, .slice A2 M.length c2] 25)).alloc (.cells #[.slice B1 rk'.length d1, .int .i64 st', .slice B2 M'.length d2] 25)) = W1 at *
  have k0 : W1.cell? ⟨w.heap.size, 0, none⟩ = some (.slice A1 rk.length c1) := (blk_cell (HS.out).box 0).trans rfl
  have k1 : W1.cell? ⟨w.heap.size, 1, none⟩ = some (.int .i64 st) := (blk_cell (HS.out).box 1).trans rfl
  have k2 : W1.cell? ⟨w.heap.size, 2, none⟩ = some (.slice A2 M.length c2) := (blk_cell (HS.out).box 2).trans rfl
  go_wp2_with fail
  refine (HC1.out _ (HS.out).hb).mono ?_
  rintro E W2 ⟨rfl, hb⟩
  have HS2 := Aside0.mk ((HS.out).below hb)
  clear hb HS k0 k1 k2 HC1
  cases h1 : auB rk st M with
  | false =>
    have HP := Aside0.mk (show R = false by rw [HV.out, h1]; rfl)
    clear h1 HV
    go_wp2
    go_ret
    exact ⟨by rw [HP.out]; rfl, (HS2.out).hb⟩
  | true =>
  have HO1 := Aside0.mk (auOk h1)
  rw [h1, Bool.true_and] at HV
  clear h1
  have k0 : W2.cell? ⟨w.heap.size + 1, 0, none⟩ = some (.slice B1 rk'.length d1) := (blk_cell (HS2.out).box' 0).trans rfl
  have k1 : W2.cell? ⟨w.heap.size + 1, 1, none⟩ = some (.int .i64 st') := (blk_cell (HS2.out).box' 1).trans rfl
  have k2 : W2.cell? ⟨w.heap.size + 1, 2, none⟩ = some (.slice B2 M'.length d2) := (blk_cell (HS2.out).box' 2).trans rfl
  go_wp2_with fail
  refine (HC2.out _ (HS2.out).hb).mono ?_
  rintro E W3 ⟨rfl, hb⟩
  have HS3 := Aside0.mk ((HS2.out).below hb)
  clear hb HS2 k0 k1 k2 HC2
  cases h2 : auB rk' st' M' with
  | false =>
    have HP := Aside0.mk (show R = false by rw [HV.out, h2]; rfl)
    clear h2 HV
    go_wp2
    go_ret
    exact ⟨by rw [HP.out]; rfl, (HS3.out).hb⟩
  | true =>
  have HO2 := Aside0.mk (auOk h2)
  rw [h2, Bool.true_and] at HV
  clear h2
  have k0 : W3.cell? ⟨w.heap.size, 0, none⟩ = some (.slice A1 rk.length c1) := (blk_cell (HS3.out).box 0).trans rfl
  have k4 : W3.cell? ⟨w.heap.size + 1, 0, none⟩ = some (.slice B1 rk'.length d1) := (blk_cell (HS3.out).box' 0).trans rfl
  go_wp2_with fail
  refine (HE.out _ (HS3.out).hb).mono ?_
  rintro E W4 ⟨rfl, hb⟩
  have HS4 := Aside0.mk ((HS3.out).below hb)
  clear hb HS3 k0 k4 HE
  cases h4 : eqI rk rk' with
  | false =>
    have HP := Aside0.mk (show R = false by rw [HV.out, h4]; rfl)
    clear HV
    go_wp2
    go_ret
    exact ⟨by rw [HP.out]; rfl, (HS4.out).hb⟩
  | true =>
  have HRE := Aside0.mk ((eqI_iff _ _).1 h4)
  rw [h4, Bool.true_and] at HV
  clear h4
  have k1 : W4.cell? ⟨w.heap.size, 1, none⟩ = some (.int .i64 st) := (blk_cell (HS4.out).box 1).trans rfl
  have k3 : W4.cell? ⟨w.heap.size + 1, 1, none⟩ = some (.int .i64 st') := (blk_cell (HS4.out).box' 1).trans rfl
  cases h3 : (st != st') with
  | true =>
    have HP := Aside0.mk (show R = false by rw [HV.out, show decide (st = st') = false by simpa using h3]; simp)
    clear HV
    go_wp2
    go_ret
    exact ⟨by rw [HP.out]; rfl, (HS4.out).hb⟩
  | false =>
  have h3' : decide (st = st') = true := by simpa using h3
  rw [h3', Bool.true_and] at HV
  have k2 : W4.cell? ⟨w.heap.size, 2, none⟩ = some (.slice A2 M.length c2) := (blk_cell (HS4.out).box 2).trans rfl
  have k5 : W4.cell? ⟨w.heap.size + 1, 2, none⟩ = some (.slice B2 M'.length d2) := (blk_cell (HS4.out).box' 2).trans rfl
  have k0 : W4.cell? ⟨w.heap.size, 0, none⟩ = some (.slice A1 rk.length c1) := (blk_cell (HS4.out).box 0).trans rfl
  cases h5 : ((M.length : Int) != (M'.length : Int)) with
  | true =>
    have HP := Aside0.mk (show R = false by
      rw [HV.out]
      exact eqF_len (by have : ¬ (M.length : Int) = (M'.length : Int) := by simpa using h5
                        omega))
    clear HV
    go_wp2
    go_ret
    exact ⟨by rw [HP.out]; rfl, (HS4.out).hb⟩
  | false =>
  have HLM := Aside0.mk (show M.length = M'.length by have : (M.length : Int) = (M'.length : Int) := by simpa using h5
                                                      omega)
  have HN6 := Aside0.mk (HO1.out).nM
  have HN24 := Aside0.mk (HO1.out).nrk
  go_wp2
  clear k0 k1 k2 k3 k5 h3 h3' h5
  go_loopg [42] M.length (fun gg v42 wi => ∃ q : Nat, q ≤ M.length ∧ M.length - q ≤ gg ∧ v42 = .int .i64 q ∧ Aside0 (TX2 w (.slice A1 rk.length c1) (.int .i64 st) (.slice A2 M.length c2) (.slice B1 rk'.length d1) (.int .i64 st') (.slice B2 M'.length d2) wi) ∧ Aside0 (∀ i, i < q → eq3 (M.getD i []) (M'.getD i []) = true))
  case atStart => exact ⟨0, Nat.zero_le _, Nat.le_refl _, rfl, HS4, ⟨fun i hi => absurd hi (Nat.not_lt_zero _)⟩⟩
  case round =>
    clear HS4
    obtain ⟨q, hq, hgg, rfl, HS, HP⟩ := hrel
    by_cases hlt : q < M.length
    · have hltz : (q : Int) < (M.length : Int) := by omega
      have HLT := Aside0.mk hlt
      have HKQ := Aside0.mk (show wrap64 ((q : Int) + 1) = ((q + 1 : Nat) : Int) by rw [wr_id (by omega) (by have := HN6.out; omega)]; rfl)
      obtain ⟨ad, A3, c3, e, hk, hl3, hC3⟩ := at_sl HM.out q hlt
      subst e
      obtain ⟨bd, B3, d3, e, hkb, hl4, hC4⟩ := at_sl HM'.out q (by have := HLM.out; omega)
      subst e
      have HK := Aside0.mk hk
      have HKB := Aside0.mk hkb
      have HC3 := Aside0.mk hC3
      have HC4 := Aside0.mk hC4
      have HF := Aside0.mk (show eq3 (M.getD q []) (M'.getD q []) = false → R = false from fun h => by rw [HV.out]; exact eqF_at hlt h)
      have HT := Aside0.mk (show eq3 (M.getD q []) (M'.getD q []) = true → ∀ i, i < q + 1 → eq3 (M.getD i []) (M'.getD i []) = true from fun h i hi => by
        rcases Nat.lt_or_ge i q with h2 | h2
        · exact HP.out i h2
        · rw [show i = q by omega]; exact h)
      have HR1 := Aside0.mk ((HO1.out).row _ (getD_memD [] hlt))
      have HR2 := Aside0.mk ((HO2.out).row (M'.getD q []) (getD_memD [] (by have := HLM.out; omega)))
      have k0 : wr.cell? ⟨w.heap.size, 0, none⟩ = some (.slice A1 rk.length c1) := (blk_cell (HS.out).box 0).trans rfl
      clear hk hkb hC3 hC4 hl3 hl4 HP hlt hq
      generalize M.getD q [] = row at *
      generalize M'.getD q [] = row' at *
      go_wp2
      clear k0
      go_loopg [48] rk.length (fun gg v48 wi => ∃ f : Nat, f ≤ rk.length ∧ rk.length - f ≤ gg ∧ v48 = .int .i64 f ∧ Aside0 (TX2 w (.slice A1 rk.length c1) (.int .i64 st) (.slice (some ad) M.length c2) (.slice B1 rk'.length d1) (.int .i64 st') (.slice (some bd) M'.length d2) wi) ∧ Aside0 (∀ i, i < f → eq2 (row.getD i []) (row'.getD i []) = true))
      case atStart => exact ⟨0, Nat.zero_le _, Nat.le_refl _, rfl, HS, ⟨fun i hi => absurd hi (Nat.not_lt_zero _)⟩⟩
      case round =>
        clear HS
        obtain ⟨f, hf, hgg, rfl, HS, HP⟩ := hrel
        by_cases hlt : f < rk.length
        · have hltf : (f : Int) < (rk.length : Int) := by omega
          have hltr : (f : Int) < (row.length : Int) := by have := HR1.out; omega
          have hltr' : (f : Int) < (row'.length : Int) := by have := HR2.out; have := congrArg List.length HRE.out; omega
          have hltm' : (q : Int) < (M'.length : Int) := by have := HLM.out; omega
          have HLF := Aside0.mk hlt
          have HKF := Aside0.mk (show wrap64 ((f : Int) + 1) = ((f + 1 : Nat) : Int) by rw [wr_id (by omega) (by have := HN24.out; omega)]; rfl)
          obtain ⟨ad4, A4, c4, e, hk4, hl4, hC4⟩ := at_sl HC3.out f (by have := HR1.out; omega)
          subst e
          obtain ⟨bd4, B4, d4, e, hkb4, hl5, hC5⟩ := at_sl HC4.out f (by omega)
          subst e
          have HF4 := Aside0.mk (show eq2 (row.getD f []) (row'.getD f []) = false → R = false from fun h => HF.out (eqF_at (by have := HR1.out; omega) h))
          have HT4 := Aside0.mk (show eq2 (row.getD f []) (row'.getD f []) = true → ∀ i, i < f + 1 → eq2 (row.getD i []) (row'.getD i []) = true from fun h i hi => by
            rcases Nat.lt_or_ge i f with h2 | h2
            · exact HP.out i h2
            · rw [show i = f by omega]; exact h)
          have HC := Aside0.mk fun W (hW : Below w.heap.size w W) => eqMoves_calls A4 c4 (row.getD f []) B4 d4 (row'.getD f []) W (Kd.C_below hC4 hW) hl4 (Kd.C_below hC5 hW) hl5
          have HK4 := Aside0.mk hk4
          have HKB4 := Aside0.mk hkb4
          clear hk4 hkb4 hC4 hC5 hl4 hl5 HP hlt hf
          generalize row.getD f [] = al at *
          generalize row'.getD f [] = al' at *
          generalize eq2 al al' = v at *
          have HCE := Aside0.mk (fun (W : World) (h : TX2 w (.slice A1 rk.length c1) (.int .i64 st) (.slice (some ad) M.length c2) (.slice B1 rk'.length d1) (.int .i64 st') (.slice (some bd) M'.length d2) W) =>
            (show (W.cell? ⟨w.heap.size, 2, none⟩ = some (.slice (some ad) M.length c2) ∧ W.cell? ⟨w.heap.size + 1, 2, none⟩ = some (.slice (some bd) M'.length d2)) ∧ (W.cell? (ad.add q) = some (.slice (some ad4) row.length c3) ∧ W.cell? (bd.add q) = some (.slice (some bd4) row'.length d3)) ∧ (W.cell? (ad4.add f) = some (.slice A4 al.length c4) ∧ W.cell? (bd4.add f) = some (.slice B4 al'.length d4)) from
              ⟨⟨(blk_cell h.box 2).trans rfl, (blk_cell h.box' 2).trans rfl⟩, ⟨pw_cell_below h.hb HK.out, pw_cell_below h.hb HKB.out⟩, pw_cell_below h.hb HK4.out, pw_cell_below h.hb HKB4.out⟩))
          go_upto_region 9 with (fail)
          have HS0 := Aside0.mk ((HS.out).below (below_drew (Below.refl _ _)))
          cases v with
          | false =>
            have HVV := Aside0.mk (HF4.out rfl)
            go_region_held3 (fun W => (W.cell? ⟨w.heap.size, 2, none⟩ = some (.slice (some ad) M.length c2) ∧ W.cell? ⟨w.heap.size + 1, 2, none⟩ = some (.slice (some bd) M'.length d2)) ∧ (W.cell? (ad.add q) = some (.slice (some ad4) row.length c3) ∧ W.cell? (bd.add q) = some (.slice (some bd4) row'.length d3)) ∧ (W.cell? (ad4.add f) = some (.slice A4 al.length c4) ∧ W.cell? (bd4.add f) = some (.slice B4 al'.length d4)))
              (first | exact HCE.out _ HSa.out | exact HCE.out _ HS0.out | exact HCE.out _ HS.out | fail)
              (first | (go_at_call 68; (with_reducible refine (HC.out _ (HS0.out).hb).mono ?_); rintro E w2 ⟨rfl, hb⟩; have HSa := Aside0.mk ((HS0.out).below hb); clear hb) | fail)
            go_wp2
            go_ret
            exact ⟨by rw [HVV.out]; rfl, (HSa.out).hb⟩
          | true =>
            have HVV := Aside0.mk (HT4.out rfl)
            go_region_held3 (fun W => (W.cell? ⟨w.heap.size, 2, none⟩ = some (.slice (some ad) M.length c2) ∧ W.cell? ⟨w.heap.size + 1, 2, none⟩ = some (.slice (some bd) M'.length d2)) ∧ (W.cell? (ad.add q) = some (.slice (some ad4) row.length c3) ∧ W.cell? (bd.add q) = some (.slice (some bd4) row'.length d3)) ∧ (W.cell? (ad4.add f) = some (.slice A4 al.length c4) ∧ W.cell? (bd4.add f) = some (.slice B4 al'.length d4)))
              (first | exact HCE.out _ HSa.out | exact HCE.out _ HS0.out | exact HCE.out _ HS.out | fail)
              (first | (go_at_call 68; (with_reducible refine (HC.out _ (HS0.out).hb).mono ?_); rintro E w2 ⟨rfl, hb⟩; have HSa := Aside0.mk ((HS0.out).below hb); clear hb) | fail)
            go_wp2
            go_roundg (rk.length - (f + 1))
            case measure => have := HLF.out; omega
            case rel => exact ⟨f + 1, HLF.out, Nat.le_refl _, by rw [HKF.out], HSa, HVV⟩
        · obtain rfl : f = rk.length := by omega
          have HT6 := Aside0.mk (HT.out (eqF_all (by have := HR1.out; have := HR2.out; have := congrArg List.length HRE.out; omega) (fun i hi => HP.out i (by have := HR1.out; omega))))
          clear HP hlt hf hgg
          go_wp2
          go_roundg (M.length - (q + 1))
          case measure => have := HLT.out; omega
          case rel => exact ⟨q + 1, HLT.out, Nat.le_refl _, by rw [HKQ.out], HS, HT6⟩
    · obtain rfl : q = M.length := by omega
      have HVV := Aside0.mk (show R = true by rw [HV.out]; exact eqF_all HLM.out HP.out)
      clear HP hlt hq hgg
      go_wp2
      go_ret
      exact ⟨by rw [HVV.out]; rfl, (HS.out).hb⟩
end Go.Proofs.YtbmcigakiibncaaGreatDoor.H
namespace Go.Proofs.YtbmcigakiibncaaGreatDoor.H
open Go.RowKit Go.Proofs.YtbmcigakiibncaaGreatDoorW.PrintWords Go.Proofs.YtbmcigakiibncaaGreatDoorW.PrintLast Go.Proofs.YtbmcigakiibncaaGreatDoorW.PrintMore
set_option linter.unusedVariables false
set_option linter.unusedSimpArgs false
theorem TX2.cells {w W : World} {x y z x' y' z' : Value} (h : TX2 w x y z x' y' z' W) : (W.cell? ⟨w.heap.size, 0, none⟩ = some x ∧ W.cell? ⟨w.heap.size, 1, none⟩ = some y ∧ W.cell? ⟨w.heap.size, 2, none⟩ = some z) ∧ (W.cell? ⟨w.heap.size + 1, 0, none⟩ = some x' ∧ W.cell? ⟨w.heap.size + 1, 1, none⟩ = some y' ∧ W.cell? ⟨w.heap.size + 1, 2, none⟩ = some z') :=
  ⟨⟨(blk_cell h.box 0).trans rfl, (blk_cell h.box 1).trans rfl, (blk_cell h.box 2).trans rfl⟩, (blk_cell h.box' 0).trans rfl, (blk_cell h.box' 1).trans rfl, (blk_cell h.box' 2).trans rfl⟩
set_option maxHeartbeats 8000000 in
set_option maxRecDepth 100000 in
theorem autoSame_calls (rk : List Int) (M : Mv) (st : Int) (A1 : Option Addr) (c1 : Nat) (A2 : Option Addr) (c2 : Nat) (rk' : List Int) (M' : Mv) (st' : Int) (B1 : Option Addr) (d1 : Nat) (B2 : Option Addr) (d2 : Nat) (w : World)
    (hr : Kd.C (Kd.int .i64) w A1 rk.length rk) (hc1 : rk.length ≤ c1) (hM : Kd.C kA3 w A2 M.length M) (hc2 : M.length ≤ c2)
    (hr' : Kd.C (Kd.int .i64) w B1 rk'.length rk') (hd1 : rk'.length ≤ d1) (hM' : Kd.C kA3 w B2 M'.length M') (hd2 : M'.length ≤ d2) (hm : MX w) (ht : TabD w) :
    Calls Tryz.prog 10 #[.agg #[.slice A1 rk.length c1, .int .i64 st, .slice A2 M.length c2], .agg #[.slice B1 rk'.length d1, .int .i64 st', .slice B2 M'.length d2]] w fun e w' => e = .returned (.bool true) ∧ Below w.heap.size w w' := by
  have H1 := Aside0.mk fun W (hW : Below w.heap.size w W) => asame_calls rk M st A1 c1 A2 c2 rk' M' st' B1 d1 B2 d2 W (Kd.C_below hr hW) hc1 (Kd.C_below hM hW) hc2 (Kd.C_below hr' hW) hd1 (Kd.C_below hM' hW) hd2
  have H2 := Aside0.mk fun W (hW : Below w.heap.size w W) => rsame_calls rk M st A1 c1 A2 c2 rk' M' st' B1 d1 B2 d2 W (Kd.C_below hr hW) hc1 (Kd.C_below hM hW) hc2 (Kd.C_below hr' hW) hd1 (Kd.C_below hM' hW) hd2
  have HAL := Aside0.mk fun W (hW : Below w.heap.size w W) => alive_calls W (MX.below hm hW) (ht.below hW)
  have HS := Aside0.mk (TX2.start w (.slice A1 rk.length c1) (.int .i64 st) (.slice A2 M.length c2) (.slice B1 rk'.length d1) (.int .i64 st') (.slice B2 M'.length d2))
  clear hr hc1 hM hc2 hr' hd1 hM' hd2 hm ht
  generalize sameB rk st M rk' st' M' = R at *
  go_enter Tryz.func10, Tryz.ntmps10
  go_upto_region 1 with (fail)
  generalize ((w.alloc (.cells #[.slice A1 rk.length c1, .int .i64 st, .slice A2 M.length c2] 25)).alloc (.cells #[.slice B1 rk'.length d1, .int .i64 st', .slice B2 M'.length d2] 25)) = W1 at *
  have HS0 := Aside0.mk ((HS.out).below (below_drew (Below.refl _ _)))
  go_region_held3 (fun w' => (w'.cell? ⟨w.heap.size, 0, none⟩ = some (.slice A1 rk.length c1) ∧ w'.cell? ⟨w.heap.size, 1, none⟩ = some (.int .i64 st) ∧ w'.cell? ⟨w.heap.size, 2, none⟩ = some (.slice A2 M.length c2)) ∧ (w'.cell? ⟨w.heap.size + 1, 0, none⟩ = some (.slice B1 rk'.length d1) ∧ w'.cell? ⟨w.heap.size + 1, 1, none⟩ = some (.int .i64 st') ∧ w'.cell? ⟨w.heap.size + 1, 2, none⟩ = some (.slice B2 M'.length d2)))
    (first | exact (HSc.out).cells | exact (HSb.out).cells | exact (HSa.out).cells | exact (HS0.out).cells | exact (HS.out).cells | fail)
    (first | (go_at_call 32; (with_reducible refine (H1.out _ (HS0.out).hb).mono ?_); rintro E w2 ⟨rfl, hb⟩; have HSa := Aside0.mk ((HS0.out).below hb); clear hb) | (go_at_call 28; (with_reducible refine (H2.out _ (HSa.out).hb).mono ?_); rintro E w3 ⟨rfl, hb⟩; have HSb := Aside0.mk ((HSa.out).below hb); clear hb) | (go_at_call 18; (with_reducible refine (HAL.out _ (HSb.out).hb).mono ?_); rintro E w4 ⟨rfl, hb⟩; have HSc := Aside0.mk ((HSb.out).below hb); clear hb) | fail)
  go_wp2
  go_ret
  exact ⟨rfl, (HSc.out).hb⟩
end Go.Proofs.YtbmcigakiibncaaGreatDoor.H
namespace Go.Proofs.YtbmcigakiibncaaGreatDoor.H
open Go.ChangeShapes Go.WideShapes Go.ChangeAt Go.RowKit Go.Deep Go.Proofs.YtbmcigakiibncaaGreatDoorW.PrintWords Go.Proofs.YtbmcigakiibncaaGreatDoorW.PrintLast Go.Proofs.YtbmcigakiibncaaGreatDoorW.PrintMore
open Go.Proofs.YtbmcigakiibncaaGreatDoor.Q (S28 k28 S83 k83)
set_option linter.unusedVariables false
set_option maxRecDepth 100000
def Opens {α : Type} (P : Program) (t : TypeId) (d : Kd α) (W : α → Prop) : Prop :=
  ∀ {H : Type} (enc : TypeId × Value → H) (w : World) (base : Nat) (held : Bool) (fuel : Nat) (cs : List Value) (x : DataW H × List MemPlace),
    DataW.trod enc P w base (fun _ => true) held fuel t cs = some x → ∃ a : α, d.K w a cs ∧ W a
theorem opens_int {P : Program} {t : TypeId} {k : IntKind} (ht : P.underlying t = some (.int k)) : Opens P t (Kd.int k) (fun a => (Lit.int k a).wf = true) := by
  intro H enc w base held fuel cs x h
  obtain ⟨n, rfl, _, hw⟩ := DataW.trod_int ht h
  exact ⟨n, rfl, hw⟩
theorem choose_list {α : Type} {p : Nat → α → Prop} {n : Nat} (h : ∀ i, i < n → ∃ y, p i y) : ∃ xs : List α, xs.length = n ∧ ∀ i y, xs[i]? = some y → p i y := by
  induction n with
  | zero => exact ⟨[], rfl, fun i y h => by simp at h⟩
  | succ n ih =>
    obtain ⟨xs, h1, h2⟩ := ih (fun i hi => h i (by omega))
    obtain ⟨y, hy⟩ := h n (by omega)
    refine ⟨xs ++ [y], by simp [h1], fun i z hz => ?_⟩
    rcases Nat.lt_or_ge i xs.length with hi | hi
    · rw [List.getElem?_append_left hi] at hz
      exact h2 i z hz
    · rw [List.getElem?_append_right hi] at hz
      have h3 : i - xs.length = 0 := by
        rcases Nat.eq_zero_or_pos (i - xs.length) with h | h
        · exact h
        · rw [List.getElem?_eq_none (by simp; omega)] at hz; cases hz
      rw [h3] at hz
      obtain rfl : y = z := by simpa using hz
      rw [show i = n from by omega]
      exact hy
theorem opens_slice {α : Type} {P : Program} {t e : TypeId} {d : Kd α} {W : α → Prop} (ht : P.underlying t = some (.slice e)) (hsz : P.cellsOf e = d.sz) (ho : Opens P e d W) : Opens P t (Kd.slice e d) (fun xs => ∀ x ∈ xs, W x) := by
  intro H enc w base held fuel cs x h
  rcases open_slice ht h with ⟨rfl, _⟩ | ⟨a, len, cap, m, n, D, Pl, rfl, _, hl, hm, hmm, _, hx⟩
  · exact ⟨[], ⟨none, 0, rfl, Nat.le_refl _, rfl, by simp, fun h0 => absurd h0 (by simp)⟩, by simp⟩
  · have hmm' : m = cap := by simpa using hmm
    have each : ∀ i, i < len → ∃ y : α, ∃ cs', w.cells? base (a.add (i * P.cellsOf e)) (P.cellsOf e) = some cs' ∧ d.K w y cs' ∧ W y := by
      intro i hi
      obtain ⟨cs', h1, h2⟩ := hx i (by omega)
      obtain ⟨y, hy, hw⟩ := ho enc w base held n cs' _ h2
      exact ⟨y, cs', h1, hy, hw⟩
    obtain ⟨xs, hxl, hxs⟩ := choose_list each
    refine ⟨xs, ⟨some a, cap, by rw [hxl], by omega, rfl, ?_, fun _ => ⟨a, rfl, fun j p hj => ?_⟩⟩, fun y hy => ?_⟩
    · have : maxLen = 9223372036854775807 := rfl
      omega
    · obtain ⟨cs', h1, h2, _⟩ := hxs j p hj
      obtain ⟨_, hlen, hcell⟩ := World.cells?_some h1
      refine ⟨cs', d.K_len h2, h2, fun i u hu => ?_⟩
      have hi : i < cs'.length := (List.getElem?_eq_some_iff.1 hu).1
      have h3 := hcell i (by omega)
      rw [Go.Deep.add_add, hsz] at h3
      rw [h3]; exact hu
    · obtain ⟨j, hj, rfl⟩ := List.getElem_of_mem hy
      obtain ⟨_, _, _, h3⟩ := hxs j _ (List.getElem?_eq_getElem hj)
      exact h3
theorem open_row {α H : Type} {enc : TypeId × Value → H} {P : Program} {t e : TypeId} {d : Kd α} {W : α → Prop} {w : World} {base fuel : Nat} {held : Bool} {v : Value} {x : DataW H × List MemPlace} (ht : P.underlying t = some (.slice e)) (hsz : P.cellsOf e = d.sz) (ho : Opens P e d W)
    (h : DataW.trod enc P w base (fun _ => true) held fuel t [v] = some x) : ∃ A c xs, v = .slice A xs.length c ∧ xs.length ≤ c ∧ d.C w A xs.length xs ∧ ∀ y ∈ xs, W y := by
  obtain ⟨xs, ⟨A, c, hv, hc, hC⟩, hW⟩ := opens_slice ht hsz ho enc w base held fuel [v] x h
  exact ⟨A, c, xs, by simpa using hv, hc, hC, hW⟩
theorem opens_need : Opens Tryz.prog 83 k83 (fun _ => True) := by
  intro H enc w base held fuel cs x h
  obtain ⟨y0, y1, n, rfl, hl, h0, h1⟩ := trod_struct2 Tryz.underlying83 h
  have o0 : (Tryz.prog.cellsOf 3) = 1 := by kernel_rfl
  have o2 : (Tryz.prog.cellsOf 83) = 2 := by kernel_rfl
  rw [o2] at hl
  match cs, hl with
  | [c0, c1], _ =>
    simp only [o0] at h0 h1
    obtain ⟨s, e0, _, _⟩ := DataW.trod_int Tryz.underlying3 h0
    obtain ⟨t, e1, _, _⟩ := DataW.trod_int Tryz.underlying3 h1
    obtain rfl : c0 = .int .i64 s := by simpa using e0
    obtain rfl : c1 = .int .i64 t := by simpa using e1
    exact ⟨⟨s, t⟩, Q.k83_mk w ⟨s, t⟩, trivial⟩
theorem opens_moves : Opens Tryz.prog 23 (Kd.slice 65 kA3) (fun _ => True) := by
  intro H enc w base held fuel cs x h
  obtain ⟨a, h1, _⟩ := opens_slice (e := 65) Tryz.underlying23 (by kernel_rfl) (opens_slice (e := 66) Tryz.underlying65 (by kernel_rfl) (opens_slice (e := 69) Tryz.underlying66 (by kernel_rfl) (opens_slice (e := 83) Tryz.underlying69 (by kernel_rfl) opens_need))) enc w base held fuel cs x h
  exact ⟨a, h1, trivial⟩
theorem open_kids {H : Type} {enc : TypeId × Value → H} {w : World} {base fuel : Nat} {held : Bool} {cs : List Value} {x : DataW H × List MemPlace} (h : DataW.trod enc Tryz.prog w base (fun _ => true) held fuel 26 cs = some x)
    (each : ∀ (fuel : Nat) (cs : List Value) (y : DataW H × List MemPlace), SizeOf.sizeOf y.1 < SizeOf.sizeOf x.1 → DataW.trod enc Tryz.prog w base (fun _ => true) held fuel 28 cs = some y → ∃ t : S28, k28.K w t cs) :
    ∃ (A : Option Addr) (c : Nat) (l : List S28), cs = [.slice A l.length c] ∧ l.length ≤ c ∧ k28.C w A l.length l := by
  rcases open_slice Tryz.underlying26 h with ⟨rfl, _⟩ | ⟨a, len, cap, m, n, D, Pl, rfl, _, hl, hm, hmm, hxe, hx⟩
  · exact ⟨none, 0, [], rfl, Nat.le_refl _, rfl, by simp, fun h0 => absurd h0 (by simp)⟩
  · have hmm' : m = cap := by simpa using hmm
    have hel : ∀ i, i < len → ∃ t : S28, ∃ cs', w.cells? base (a.add (i * Tryz.prog.cellsOf 28)) (Tryz.prog.cellsOf 28) = some cs' ∧ k28.K w t cs' := by
      intro i hi
      obtain ⟨cs', h1, h2⟩ := hx i (by omega)
      have hlt : SizeOf.sizeOf (D i) < SizeOf.sizeOf x.1 := by
        rw [hxe]
        have hmem : D i ∈ (List.range len).map D := List.mem_map.2 ⟨i, List.mem_range.2 hi, rfl⟩
        have := List.sizeOf_lt_of_mem hmem
        simp only [DataW.slice.sizeOf_spec]
        omega
      obtain ⟨t, ht⟩ := each n cs' _ hlt h2
      exact ⟨t, cs', h1, ht⟩
    obtain ⟨xs, hxl, hxs⟩ := choose_list hel
    have c28 : Tryz.prog.cellsOf 28 = 2 := by kernel_rfl
    refine ⟨some a, cap, xs, by rw [hxl], by omega, rfl, ?_, fun _ => ⟨a, rfl, fun j p hj => ?_⟩⟩
    · have : maxLen = 9223372036854775807 := rfl
      omega
    · obtain ⟨cs', h1, h2⟩ := hxs j p hj
      obtain ⟨_, hlen, hcell⟩ := World.cells?_some h1
      refine ⟨cs', k28.K_len h2, h2, fun i u hu => ?_⟩
      have hi : i < cs'.length := (List.getElem?_eq_some_iff.1 hu).1
      have h3 := hcell i (by omega)
      rw [Go.Deep.add_add, c28] at h3
      rw [show k28.sz = 2 from rfl, h3]; exact hu
theorem open_tree {H : Type} {enc : TypeId × Value → H} {w : World} {base : Nat} {held : Bool} (N : Nat) : ∀ (fuel : Nat) (cs : List Value) (x : DataW H × List MemPlace), SizeOf.sizeOf x.1 ≤ N → DataW.trod enc Tryz.prog w base (fun _ => true) held fuel 28 cs = some x → ∃ t : S28, k28.K w t cs := by
  induction N with
  | zero =>
    intro fuel cs x hN
    have : 0 < SizeOf.sizeOf x.1 := by cases x.1 <;> simp <;> omega
    omega
  | succ N ih =>
    intro fuel cs x hN h
    obtain ⟨y0, y1, n, rfl, hl, h0, h1⟩ := trod_struct2 Tryz.underlying28 h
    have o0 : (Tryz.prog.cellsOf 3) = 1 := by kernel_rfl
    have o1 : (Tryz.prog.cellsOf 26) = 1 := by kernel_rfl
    have o2 : (Tryz.prog.cellsOf 28) = 2 := by kernel_rfl
    rw [o2] at hl
    match cs, hl with
    | [c0, c1], _ =>
      simp only [o0, o1] at h0 h1
      obtain ⟨s, e0, _, _⟩ := DataW.trod_int Tryz.underlying3 h0
      obtain ⟨A, c, l, e1, hlc, hC⟩ := open_kids h1 (fun fuel cs y hy hh => ih fuel cs y (by simp only [DataW.agg.sizeOf_spec, List.cons.sizeOf_spec, List.nil.sizeOf_spec] at hN; omega) hh)
      obtain rfl : c0 = .int .i64 s := by simpa using e0
      obtain rfl : c1 = .slice A l.length c := by simpa using e1
      exact ⟨⟨s, l⟩, Q.k28_mk w ⟨s, l⟩ hlc hC⟩
theorem arg_tree {H : Type} {enc : TypeId × Value → H} {w : World} {base : Nat} {held : Bool} {v : Value} {d : DataW H} {p : List MemPlace} (hv : Value.okWide Tryz.prog w .any base 28 v) (h : DataW.Trod enc Tryz.prog w 0 (fun _ => true) held 28 v d p) :
    ∃ (t : S28) (A : Option Addr) (c : Nat), v = .agg #[.int .i64 t.f0, .slice A t.f1.length c] ∧ t.f1.length ≤ c ∧ k28.C w A t.f1.length t.f1 := by
  obtain ⟨x3, y3, _, _, n3, rfl, _, _, a3, b3⟩ := Go.Joins.open_agg2 Tryz.underlying28 (by kernel_rfl) (by kernel_rfl) hv h
  obtain ⟨s3, he3, _, we3⟩ := DataW.trod_int Tryz.underlying3 a3
  obtain rfl : x3 = .int .i64 s3 := by simpa using he3
  obtain ⟨A3, cc3, l3, hy3, hl3, hC3⟩ := open_kids b3 (fun fuel cs y hy hh => open_tree _ fuel cs y (Nat.le_refl _) hh)
  obtain rfl : y3 = .slice A3 l3.length cc3 := by simpa using hy3
  exact ⟨⟨s3, l3⟩, A3, cc3, rfl, hl3, hC3⟩
theorem arg_auto {H : Type} {enc : TypeId × Value → H} {w : World} {base : Nat} {held : Bool} {v : Value} {d : DataW H} {p : List MemPlace} (hv : Value.okWide Tryz.prog w .any base 25 v) (h : DataW.Trod enc Tryz.prog w 0 (fun _ => true) held 25 v d p) :
    ∃ (rk : List Int) (st : Int) (M : Mv) (A1 : Option Addr) (c1 : Nat) (A2 : Option Addr) (c2 : Nat), v = .agg #[.slice A1 rk.length c1, .int .i64 st, .slice A2 M.length c2] ∧ rk.length ≤ c1 ∧ Kd.C (Kd.int .i64) w A1 rk.length rk ∧ M.length ≤ c2 ∧ Kd.C kA3 w A2 M.length M ∧ (Lit.int .i64 st).wf = true ∧ ∀ x ∈ rk, (Lit.int .i64 x).wf = true := by
  obtain ⟨x0, y0, z0, _, _, _, n0, rfl, _, _, a0, b0, c0⟩ := Go.Joins.open_agg3 Tryz.underlying25 (by kernel_rfl) (by kernel_rfl) hv h
  obtain ⟨A1, c1, rk, rfl, hl1, hC1, hw1⟩ := open_row (d := Kd.int .i64) Tryz.underlying22 (by kernel_rfl) (opens_int Tryz.underlying3) a0
  obtain ⟨st, hs, _, ws⟩ := DataW.trod_int Tryz.underlying3 b0
  obtain rfl : y0 = .int .i64 st := by simpa using hs
  obtain ⟨M, ⟨A2, c2, e2, hl2, hC2⟩, _⟩ := opens_moves enc _ _ _ _ _ _ c0
  obtain rfl : z0 = .slice A2 M.length c2 := by simpa using e2
  exact ⟨rk, st, M, A1, c1, A2, c2, rfl, hl1, hC1, hl2, hC2, ws, hw1⟩
theorem own : ownKnob Tryz.prog.godebug = none := by kernel_rfl
theorem laidOut : laidOutB Tryz.prog = true := by kernel_rfl
theorem g64 : Tryz.prog.globalNamed "math/bits.deBruijn64tab" = some 1 := by kernel_rfl
theorem t64 : (Tryz.prog.globals[1]?).map (·.type) = some 156 := by kernel_rfl
abbrev laid7 : List (String × DataW Unit) := [("math/bits.deBruijn32tab", Rows.laid_math_bits_deBruijn32tab), ("math/bits.deBruijn64tab", Rows.laid_math_bits_deBruijn64tab), ("internal/strconv.uint64pow10", Rows.laid_internal_strconv_uint64pow10), ("unicode/utf8.acceptRanges", Rows.laid_unicode_utf8_acceptRanges), ("strconv.ErrRange", Rows.laid_strconv_ErrRange), ("strconv.ErrSyntax", Rows.laid_strconv_ErrSyntax), ("unicode/utf8.first", Rows.laid_unicode_utf8_first)]
theorem mx_of_shaped {w : World} (h : w.ShapedOpen Tryz.prog) : MX w :=
  Go.Proofs.cell_of_shapedOpen_int (g := 2) (t := 3) (zero := #[.int .i64 0]) h (of_decide_eq_true (by kernel_rfl)) (by kernel_rfl) rfl (by kernel_rfl) (by kernel_rfl) Tryz.underlying3
theorem tabD_of_laid {W : World} (h : laidMetH Tryz.prog laid7 W) : TabD W := by
  rw [MakeChecks.laidMetH_plain _ _ _ (by kernel_rfl)] at h
  obtain ⟨ps, ⟨g0, t0, cs0, f0, p0, q0, hg0, ht0, hv0, hd0, ⟨g1, t1, cs1, f1, p1, q1, hg1, ht1, hv1, hd1, _, _⟩, _⟩, _, _⟩ := h
  obtain rfl := Option.some.inj (g64.symm.trans hg1)
  obtain rfl := Option.some.inj (t64.symm.trans ht1)
  obtain ⟨xs, m1, rfl, hx1, hlen, hn, hel⟩ := DataW.trod_array Tryz.underlying156 hd1
  have c5 : Tryz.prog.cellsOf 5 = 1 := by kernel_rfl
  simp only [Prod.mk.injEq] at hx1
  have hxe := hx1.1
  intro i hi
  have h1 := hel i hi
  rw [c5, Nat.mul_one] at h1
  cases hxi : xs[i]? with
  | none =>
    have := List.getElem?_eq_none_iff.1 hxi
    omega
  | some x =>
    rw [hxi] at h1
    obtain ⟨n, e1, e2, _⟩ := DataW.trod_int Tryz.underlying5 h1
    have hc := World.var?_cell hg1 hv1 i
    rw [hc, ← Array.getElem?_toList]
    have h3 := congrArg (·[0]?) e1
    have h4 : cs1.toList[i]? = some (.int .u8 n) := by simpa [List.getElem?_take, List.getElem?_drop] using h3
    rw [h4]
    have h5 : (xs.map (·.1))[i]? = some (.lit (.int .u8 n)) := by rw [List.getElem?_map, hxi]; simp [e2]
    have h6 : (xs.map (·.1)) = Lib.deBruijn64tab.map fun (n : Nat) => (.lit (.int .u8 (n : Int)) : DataW Unit) := by
      first | exact (DataW.agg.inj hxe).symm | exact DataW.agg.inj hxe
    rw [h6, List.getElem?_map] at h5
    have h7 : i < Lib.deBruijn64tab.length := by rw [show Lib.deBruijn64tab.length = 64 from rfl]; exact hi
    rw [List.getElem?_eq_getElem h7] at h5
    have h8 : ((Lib.deBruijn64tab[i] : Nat) : Int) = n := by simpa using h5
    rw [List.getD, List.getElem?_eq_getElem h7]
    simp [h8]
theorem handed_and_shaped {H : Type} {enc : TypeId × Value → H} {a : Assume} {C : Checked} {os : Os} {f : FuncId} {fn : Func} {s : ChangeSpec} {conds : List PathCond} {apart fresh handsOn again : Bool} {X : World → Array Value → Prop}
    (hX : ∀ (w w' : World) (args : Array Value), w.heap = w'.heap → X w args → X w' args)
    (own : ownKnob C.prog.godebug = none) (started : os.Started) (noInit : C.prog.inits.idxOf? f = none) (hfn : C.prog.funcs[f]? = some fn)
    (witness : ∃ (w : World) (tape : Tape) (i : Input), w.os = os ∧ (w.forCall tape i).Shaped C.prog ∧ i.vars = [] ∧ Input.okWide C.prog (w.forCall tape i) .any w.heap.size f i ∧
      ((s.pre enc C.prog fn conds apart (w.forCall tape i).memory i.args ∧ X (w.forCall tape i).memory i.args) ∧ sizedMet enc C.prog fn (OpenSpec.ofChange s) apart (w.forCall tape i).memory i.args) ∧ a.holds C.prog (lone (Frame.enter C.prog f i.args .normal) [] (w.forCall tape i)))
    (contract : ∀ (W : World) (base : Nat) (args : Array Value) (ds gs : List (DataW H)) (before : List MemPlace),
      (∀ (j : Nat) t v, fn.params[j]? = some t → args[j]? = some v → Value.okWide C.prog W .any base t v) →
      DataW.Whole enc C.prog fn.params.toList s.vars apart W args.toList ds gs before →
      conds.all (PathCond.test C.prog ⟨fn.params.toList, ds, s.plain.varTypes C.prog, gs⟩) = true →
      X W args → W.ShapedOpen C.prog →
      Calls C.prog f args W fun e W' => ∃ v, e = .returned v ∧ s.post enc C.prog fn apart fresh handsOn again W args v W') :
    ReturnsInHanded a C os f .any (fun w args => (s.pre enc C.prog fn conds apart w args ∧ X w args) ∧ sizedMet enc C.prog fn (OpenSpec.ofChange s) apart w args) (s.post enc C.prog fn apart fresh handsOn again) := by
  refine returnsInHanded_of_calls own started noInit witness ?_
  intro w tape i _ hsh _ hok hpre hholds
  obtain ⟨_, _, _, fn', hfn', _, _, _, _, hval⟩ := hok
  have e : fn' = fn := Option.some.inj (hfn'.symm.trans hfn)
  subst e
  obtain ⟨⟨⟨ds, gs, before, hw, hc⟩, hx⟩, hz⟩ := hpre
  have hw' := DataW.Whole.of_heap (w' := w.forCall tape i) (by rfl) hw
  refine (contract (w.forCall tape i) w.heap.size i.args ds gs before hval hw' hc (hX _ _ _ (by rfl) hx) hsh).mono fun e W' ⟨v, he, hp⟩ => ?_
  subst he
  exact ChangeSpec.post_blind hp
end Go.Proofs.YtbmcigakiibncaaGreatDoor.H
