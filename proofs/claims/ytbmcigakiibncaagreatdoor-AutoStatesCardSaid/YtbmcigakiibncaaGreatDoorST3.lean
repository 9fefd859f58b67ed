/- What autoStates_calls, handed_and_shaped, own, laidOut, laid7, mx_of_shaped, tabD_of_laid, arg_auto, arg_tree needs, out of my texts, by a program (slim.py). -/
import Derived.Test.YtbmcigakiibncaaGreatDoorST2
namespace Go.Proofs.YtbmcigakiibncaaGreatDoor.H
open Go.RowKit Go.Proofs.YtbmcigakiibncaaGreatDoorW.PrintWords Go.Proofs.YtbmcigakiibncaaGreatDoorW.PrintLast Go.Proofs.YtbmcigakiibncaaGreatDoorW.PrintMore
set_option linter.unusedVariables false
set_option linter.unusedSimpArgs false
set_option maxHeartbeats 8000000 in
set_option maxRecDepth 100000 in
theorem get_calls (t : ByteArray) (w : World) (hm : MX w) :
    Calls Tryz.prog 26 #[.string t] w (GetE t w) := by
  have hmf := run_mkfun9
  have HM := Aside0.mk hm
  have HG := Aside0.mk (GH.start w)
  clear hm
  go_enter_defers Tryz.func26, Tryz.ntmps26
  go_upto_region 1 with (fail)
  generalize ((w.alloc (.cells #[.slice none 0 0, .int .i64 0, .slice none 0 0] 25)).alloc (.cells #[.int .i64 0] 29)) = W1 at *
  cases q1 : decide ((t.size : Int) > 65536) with
  | true =>
    obtain ⟨c0, c1, c2, c3⟩ := (HG.out).cells
    obtain ⟨f0, f1, f2, f3⟩ := (HG.out).frozen
    have HR := Aside0.mk (show getR t = (3, [], 0, []) by unfold getR; rw [if_pos (by have := of_decide_eq_true q1; omega)])
    have HQ := Aside0.mk ((((HG.out).set0 (.slice none 0 0)).set1 (.int .i64 0)).set2 (.slice none 0 0))
    go_wp2
    exact get_ret0 HR.out ((HQ.out).hb.setCell (p := ⟨w.heap.size + 1, 0, none⟩) (Nat.le_succ _) _) (blk_far (HQ.out).ha (by show w.heap.size ≠ w.heap.size + 1; omega) _) (blk_set (HQ.out).he 0 _) _ rfl rfl
  | false =>
  have hsz : t.size ≤ 65536 := by have := of_decide_eq_false q1; omega
  have HSZ := Aside0.mk hsz
  have HSP := Aside0.mk (split_calls t 10 W1 (by omega) ((HM.out).below (HG.out).hb))
  clear q1
  go_wp2_with fail
  refine (HSP.out).mono ?_
  rintro E w2 ⟨rfl, hw⟩
  have hb := below_alloc (Below.refl W1.heap.size W1) (.cells ((chunks t 10).map Value.string).toArray 9)
  have hbn := blk_new W1 (.cells ((chunks t 10).map Value.string).toArray 9)
  rw [← hw] at hb hbn
  have HG2 := Aside0.mk (GL.mk ((HG.out).below hb) hbn (by have := blk_lt (HG.out).he; omega))
  have HLS := Aside0.mk (show (chunks t 10).length ≤ 65537 from by have := chunks_short t 10; omega)
  have HV1 := Aside0.mk (fun h => getV_short (t := t) h)
  have HV2 := Aside0.mk (fun h => getV_end (t := t) h)
  have HV3 := Aside0.mk (fun h => getV_first (t := t) h)
  have HV4 := Aside0.mk (fun i hi h => getV_rank (t := t) (i := i) hi h)
  have HV5 := Aside0.mk (fun h => getV_second (t := t) h)
  have HV6 := Aside0.mk (fun h => getV_sec (t := t) h)
  have HCS := Aside0.mk (fun i => chunk_size t 10 i)
  clear hw hb hbn HG HSP
  generalize hLL : chunks t 10 = L at *
  generalize W1.heap.size = bl at *
  cases q2 : decide ((L.length : Int) < 3) with
  | true =>
    have HN := Aside0.mk (HV1.out (by have := of_decide_eq_true q2; omega))
    go_wp2
    exact get_panic (getR_bad HSZ.out HN.out) (HG2.out).g _ rfl rfl
  | false =>
  have hl3 : 3 ≤ L.length := by have := of_decide_eq_false q2; omega
  have HL3 := Aside0.mk hl3
  have hk := strs_cell (HG2.out).l (show L.length - 1 < L.length by omega)
  have hk0 := strs_cell (HG2.out).l (show 0 < L.length by omega)
  have HLE := Aside0.mk (HV2.out)
  clear HV2
  generalize hle : L.getD (L.length - 1) ByteArray.empty = le at *
  have HLEE := Aside0.mk hle
  generalize hs0 : L.getD 0 ByteArray.empty = s0 at *
  have HS0 := Aside0.mk hs0
  have HS0Z := Aside0.mk (show s0.size ≤ t.size by rw [← hs0]; exact HCS.out 0)
  clear hle hs0
  have hz2 : IntKind.i64.wrap ((L.length : Int) - 1) = (L.length : Int) - 1 := by have := HLS.out; simp [IntKind.wrap, IntKind.bits, IntKind.signed]; omega
  cases q3 : le.toList.isEmpty with
  | false =>
    have HN := Aside0.mk (HLE.out (fun e => by rw [e, Lib.toList_data] at q3; revert q3; decide))
    go_wp2
    exact get_panic (getR_bad HSZ.out HN.out) (HG2.out).g _ rfl rfl
  | true =>
    have HWO := Aside0.mk (wordsB_calls s0 sRanks w2 (by have := HS0Z.out; omega) ((HM.out).below (HG2.out).g.hb))
    go_wp2_with fail
    refine (HWO.out).mono ?_
    rintro E w3 ⟨hb, ⟨hne, rfl⟩ | ⟨hhd, o, rfl, ho, hws⟩⟩
    · have HN := Aside0.mk (HV3.out hne)
      have HG3 := Aside0.mk ((HG2.out).below hb)
      unfold pbad
      go_wp2
      exact get_panic (getR_bad HSZ.out HN.out) (HG3.out).g _ rfl rfl
    · have HG3 := Aside0.mk ((HG2.out).below hb)
      have HWS := Aside0.mk hws
      have HO := Aside0.mk ho
      have HHD := Aside0.mk hhd
      have HBW := Aside0.mk (show w.heap.size + 2 ≤ w2.heap.size from by have := blk_lt (HG2.out).l; have := (HG2.out).hbl; omega)
      have HLEM := Aside0.mk (show le = ByteArray.empty from string_inj (by rw [Lib.toList_data, Lib.toList_data]; rw [Lib.toList_data] at q3; rw [List.isEmpty_iff.1 q3]; rfl))
      clear hb hws ho hhd hk hk0 hz2 HG2 HWO q2 q3
      generalize w2.heap.size = bw at *
      generalize hws0 : chunks s0 32 = ws at *
      generalize hwd : ws.drop 1 = wd at *
      have HWZ := Aside0.mk (show ∀ i, (wd.getD i ByteArray.empty).size ≤ s0.size from fun i => by
        have h1 := chunk_size s0 32 (1 + i)
        rw [hws0] at h1
        rw [← hwd]
        rw [show (ws.drop 1).getD i ByteArray.empty = ws.getD (1 + i) ByteArray.empty by simp [List.getD_eq_getElem?_getD, List.getElem?_drop, Nat.add_comm]]
        exact h1)
      have HWD := Aside0.mk hwd
      have HWS0 := Aside0.mk hws0
      have HWL := Aside0.mk (show wd.length ≤ 65536 from by
        have h1 := chunks_short s0 32
        rw [hws0] at h1
        rw [← hwd, List.length_drop]
        have := HS0Z.out; have := HSZ.out
        omega)
      clear hwd hws0
      go_wp2
      go_loopg [47] wd.length (fun gg v47 wi => ∃ (i : Nat) (A : Option Addr) (c : Nat), i ≤ wd.length ∧ wd.length - i ≤ gg ∧ v47 = .int .i64 i ∧ Aside0 (GL w wi (.slice A i c) (.int .i64 0) (.slice none 0 0) bl L) ∧ Aside0 (wi.heap[bw]? = some (.cells (ws.map Value.string).toArray 9 (0, 0))) ∧ Aside0 (Kd.R (Kd.int .i64) 3 wi w.heap.size (fun k => w.heap.size + 2 ≤ k) (.slice A i c) ((wd.take i).map valW)) ∧ Aside0 (∀ j, j < i → okW (wd.getD j ByteArray.empty) = true))
      case atStart => exact ⟨0, none, 0, Nat.zero_le _, Nat.le_refl _, rfl, HG3, HWS, ⟨Kd.R_nil _ _ _ _ _⟩, ⟨fun j hj => absurd hj (Nat.not_lt_zero _)⟩⟩
      case round =>
        clear HG3 HWS
        obtain ⟨i, A, c, hi, hgg, rfl, HG4, HWB, HR, HOK⟩ := hrel
        by_cases hlt : i < wd.length
        · have hltz : (i : Int) < (wd.length : Int) := by omega
          have hk := words_cell (HWB.out) (show i < (ws.drop 1).length by rw [HWD.out]; exact hlt) (by rw [HWD.out]; exact HO.out)
          rw [HWD.out] at hk
          have HS1Z := Aside0.mk (HWZ.out i)
          have HS1B := Aside0.mk (HV4.out i)
          generalize hs1 : wd.getD i ByteArray.empty = s1 at *
          have HS1 := Aside0.mk hs1
          clear hs1
          go_upto_region 10 with (fail)
          clear hk
          have HN := Aside0.mk (number_calls s1 wr.drew (by have := HS1Z.out; have := HS0Z.out; have := HSZ.out; omega))
          obtain ⟨k0, k1, k2, k3⟩ := (HG4.out).g.cells
          cases q4 : okW s1 with
          | false =>
            have HX := Aside0.mk (HS1B.out hlt q4)
            have HNE := Aside0.mk (show numE s1.data.toList = pbad by unfold numE; rw [show numOk s1.data.toList = false from q4]; rfl)
            rw [HNE.out] at HN
            have HPX := Aside0.mk (fun w4 (hb : Below wr.drew.heap.size wr.drew w4) => (HG4.out).below (below_then (below_drew (Below.refl wr.heap.size wr)) (below_drew (Below.refl wr.heap.size wr)).size hb))
            refine wp_region_any (by kernel_rfl) ?_
            change wpAny _ _ _ _ _ _ _ (World.drew _)
            refine wpAny_ready (rs := [0, 2]) (by kernel_rfl) (by simp) ?_
            refine AllReady.cons rfl (fun K hK => ?_) ?_
            · go_simp
              refine hK _ _ ?_
              clear hK K
              refine wpAny_ready (rs := [1, 2]) (by kernel_rfl) (by simp) ?_
              refine AllReady.cons rfl (fun K hK => ?_) ?_
              · go_simp
                refine hK _ _ ?_
                clear hK K
                refine wpAny_ready (rs := [2]) (by kernel_rfl) (by simp) ?_
                refine AllReady.cons rfl (fun K hK => ?_) ?_
                · go_simp
                  refine hK _ _ ?_
                  clear hK K
                  refine wpAny_ready (rs := [3]) (by kernel_rfl) (by simp) ?_
                  refine AllReady.cons rfl (fun K hK => ?_) ?_
                  · go_simp
                    go_wp2_with (go_at_call 61; refine (HN.out).mono ?_; rintro E w4 ⟨rfl, hb⟩; exact get_panic (getR_bad HSZ.out HX.out) ((HPX.out) _ hb).g _ rfl rfl)
                  exact AllReady.nil
                exact AllReady.nil
              refine AllReady.cons rfl (fun K hK => ?_) ?_
              · go_simp
                refine hK _ _ ?_
                clear hK K
                refine wpAny_ready (rs := [1, 3]) (by kernel_rfl) (by simp) ?_
                refine AllReady.cons rfl (fun K hK => ?_) ?_
                · go_simp
                  refine hK _ _ ?_
                  clear hK K
                  refine wpAny_ready (rs := [3]) (by kernel_rfl) (by simp) ?_
                  refine AllReady.cons rfl (fun K hK => ?_) ?_
                  · go_simp
                    go_wp2_with (go_at_call 61; refine (HN.out).mono ?_; rintro E w4 ⟨rfl, hb⟩; exact get_panic (getR_bad HSZ.out HX.out) ((HPX.out) _ hb).g _ rfl rfl)
                  exact AllReady.nil
                refine AllReady.cons rfl (fun K hK => ?_) ?_
                · go_simp
                  go_wp2_with (go_at_call 61; refine (HN.out).mono ?_; rintro E w4 ⟨rfl, hb⟩; exact get_panic (getR_bad HSZ.out HX.out) ((HPX.out) _ hb).g _ rfl rfl)
                exact AllReady.nil
              exact AllReady.nil
            refine AllReady.cons rfl (fun K hK => ?_) ?_
            · go_simp
              refine hK _ _ ?_
              clear hK K
              refine wpAny_ready (rs := [0, 3]) (by kernel_rfl) (by simp) ?_
              refine AllReady.cons rfl (fun K hK => ?_) ?_
              · go_simp
                refine hK _ _ ?_
                clear hK K
                refine wpAny_ready (rs := [1, 3]) (by kernel_rfl) (by simp) ?_
                refine AllReady.cons rfl (fun K hK => ?_) ?_
                · go_simp
                  refine hK _ _ ?_
                  clear hK K
                  refine wpAny_ready (rs := [3]) (by kernel_rfl) (by simp) ?_
                  refine AllReady.cons rfl (fun K hK => ?_) ?_
                  · go_simp
                    go_wp2_with (go_at_call 61; refine (HN.out).mono ?_; rintro E w4 ⟨rfl, hb⟩; exact get_panic (getR_bad HSZ.out HX.out) ((HPX.out) _ hb).g _ rfl rfl)
                  exact AllReady.nil
                refine AllReady.cons rfl (fun K hK => ?_) ?_
                · go_simp
                  go_wp2_with (go_at_call 61; refine (HN.out).mono ?_; rintro E w4 ⟨rfl, hb⟩; exact get_panic (getR_bad HSZ.out HX.out) ((HPX.out) _ hb).g _ rfl rfl)
                exact AllReady.nil
              refine AllReady.cons rfl (fun K hK => ?_) ?_
              · go_simp
                go_wp2_with (go_at_call 61; refine (HN.out).mono ?_; rintro E w4 ⟨rfl, hb⟩; exact get_panic (getR_bad HSZ.out HX.out) ((HPX.out) _ hb).g _ rfl rfl)
              exact AllReady.nil
            exact AllReady.nil
          | true =>
            have HQ4 := Aside0.mk q4
            refine wp_region_noPanic ?_
            have HN2 := Aside0.mk (show numE s1.data.toList = .returned (.int .i64 (valW s1)) by unfold numE; rw [show numOk s1.data.toList = true from q4]; rfl)
            rw [HN2.out] at HN
            have HPX := Aside0.mk (fun w4 (hb : Below wr.drew.heap.size wr.drew w4) => below_then (below_drew (Below.refl wr.heap.size wr)) (below_drew (Below.refl wr.heap.size wr)).size hb)
            have HLT := Aside0.mk hlt
            have hlen : (((wd.take i).map valW).length + 1) * 8 ≤ 140737488355328 := by rw [List.length_map, List.length_take]; have := HWL.out; omega
            have HLEN := Aside0.mk (show ((wd.take i).map valW).length = i by rw [List.length_map, List.length_take]; omega)
            have HTK := Aside0.mk (show (wd.take i).map valW ++ [valW s1] = (wd.take (i + 1)).map valW by
              rw [List.take_add_one, List.map_append]
              congr 1
              have e : wd[i]? = some s1 := by rw [← HS1.out]; simp [List.getD_eq_getElem?_getD, hlt]
              rw [e]; rfl)
            have HLE1 := Aside0.mk (show ((wd.take (i + 1)).map valW).length = i + 1 by rw [List.length_map, List.length_take]; omega)
            go_region_law (first
              | (go_simp; go_at_call 61; refine (HN.out).mono ?_; rintro E w4 ⟨rfl, hb⟩; have HB4 := Aside0.mk ((HPX.out) w4 hb); clear hb; have HG5 := Aside0.mk ((HG4.out).below HB4.out); have HR5 := Aside0.mk (Kd.R_below HR.out HB4.out); have HWB5 := Aside0.mk (blk_below HWB.out HB4.out); obtain ⟨m0, m1, m2, m3⟩ := (HG5.out).g.cells; have l0 := pw_cell_below (below_alloc (Below.refl w4.heap.size w4) (.cells #[.int .i64 (valW s1)] 3)) m0)
              | (refine Kd.R_append_step (Kd.int .i64) (w0 := w) (W := w4) w.heap.size (by simp [Region.wanted]) (.tmp 52) (.tmp 55) 22 3 (.int .i64 0) 8 rfl Tryz.underlying22 Q.info3 rfl (by decide) (by omega) (.slice A i c) ((wd.take i).map valW) (valW s1) [.int .i64 (valW s1)] (fun k => w.heap.size + 2 ≤ k) (fun _ => False) (by rfl) (by rfl) rfl (fun _ hk => hk.elim) (fun k hk => by have := blk_lt (HG5.out).l; have := (HG5.out).hbl; omega) HR5.out (HG5.out).g.hb (HG5.out).g.hb.size hlen ?_; intro v5 w5 ho5 hb5 hg5 hat5; rw [HTK.out] at ho5; (obtain ⟨A5, c5, e5⟩ := Kd.R_slice ho5); rw [HLE1.out] at e5; subst e5; have HR6 := Aside0.mk ho5; have HG6 := Aside0.mk ((HG5.out).app HR5.out (by decide) hb5 hg5); have HWB6 := Aside0.mk (blk_grown HWB5.out hg5 (fun hk => by obtain ⟨⟨cc, hcc⟩, _⟩ := ownBlock_typed HR5.out hk.symm; exact types_ne hcc HWB5.out (by decide) rfl)); clear ho5 hb5 hg5 hat5; obtain ⟨n0, n1, n2, n3⟩ := (HG6.out).g.cells; obtain ⟨g0, g1, g2, g3⟩ := (HG6.out).g.frozen)
              | fail)
            all_goals
              refine NoPanic.normal ?_
              go_wp2
              go_roundg (wd.length - (i + 1))
              case measure => have := HLT.out; omega
              case rel => exact ⟨i + 1, A5, c5, HLT.out, Nat.le_refl _, by rw [wr_id (x := (i : Int) + 1) (by omega) (by have := HLT.out; have := HWL.out; omega)]; rfl, ⟨(HG6.out).set0 _⟩, ⟨blk_far HWB6.out (by have := HBW.out; show bw ≠ w.heap.size; omega) _⟩, ⟨Kd.R_far HR6.out (p := ⟨w.heap.size, 0, none⟩) (fun k hk he => by have h0 : k = w.heap.size := he; omega) _⟩, ⟨fun j hj => by
                by_cases e : j = i
                · rw [e, HS1.out]; exact HQ4.out
                · exact HOK.out j (by omega)⟩⟩
        · obtain rfl : i = wd.length := by omega
          have HALL := Aside0.mk (show wd.all okW = true from List.all_eq_true.2 fun x hx => by
            obtain ⟨j, hj, hjx⟩ := List.mem_iff_getElem.1 hx
            have h1 := HOK.out j hj
            rw [List.getD_eq_getElem?_getD, List.getElem?_eq_getElem hj, hjx] at h1
            exact h1)
          rw [List.take_length] at HR
          clear hi hgg hlt HOK HWB HV4 HWZ
          have HN12 := Aside0.mk (Nat.lt_of_lt_of_le (show 1 < 3 by decide) HL3.out)
          have hk := strs_cell (HG4.out).l HN12.out
          have HS1Z := Aside0.mk (HCS.out 1)
          generalize hs1 : L.getD 1 ByteArray.empty = s1 at *
          have HS1 := Aside0.mk hs1
          have HWO := Aside0.mk (wordsB_calls s1 sStates wr (by have := HS1Z.out; have := HSZ.out; omega) ((HM.out).below (HG4.out).g.hb))
          clear hs1
          go_wp2_with fail
          refine (HWO.out).mono ?_
          rintro E w4 ⟨hb, ⟨hne, rfl⟩ | ⟨hhd, o2, rfl, ho, hws⟩⟩
          · have HN := Aside0.mk (HV5.out hne)
            have HG5 := Aside0.mk ((HG4.out).below hb)
            unfold pbad
            go_wp2
            exact get_panic (getR_bad HSZ.out HN.out) (HG5.out).g _ rfl rfl
          · have HG5 := Aside0.mk ((HG4.out).below hb)
            have HR5 := Aside0.mk (Kd.R_below HR.out hb)
            have HWS2 := Aside0.mk hws
            have HO2 := Aside0.mk ho
            have HHD2 := Aside0.mk hhd
            have HBW2 := Aside0.mk (show w.heap.size + 2 ≤ wr.heap.size from by have := blk_lt (HG4.out).l; have := (HG4.out).hbl; omega)
            have HWZ2 := Aside0.mk (show ∀ i, ((chunks s1 32).getD i ByteArray.empty).size ≤ 65536 from fun i => by have := chunk_size s1 32 i; have := HS1Z.out; have := HSZ.out; omega)
            clear hb hws ho hhd hk HG4 HR HWO HN12
            generalize wr.heap.size = bw2 at *
            generalize hws0 : chunks s1 32 = ws2 at *
            have HWS20 := Aside0.mk hws0
            clear hws0
            by_cases h3 : (ws2.drop 1).length = 3
            · obtain ⟨p, x1, x2, x3, rfl⟩ : ∃ p x1 x2 x3, ws2 = [p, x1, x2, x3] := by
                rw [List.length_drop] at h3
                match ws2, h3 with
                | [p, x1, x2, x3], _ => exact ⟨p, x1, x2, x3, rfl⟩
              obtain rfl : o2 = 1 := by have := HO2.out; simp at this; exact this
              have z1 : w4.cell? ⟨bw2, 1, none⟩ = some (.string x1) := (blk_cell HWS2.out 1).trans rfl
              have z2 : w4.cell? ⟨bw2, 2, none⟩ = some (.string x2) := (blk_cell HWS2.out 2).trans rfl
              have z3 : w4.cell? ⟨bw2, 3, none⟩ = some (.string x3) := (blk_cell HWS2.out 3).trans rfl
              have HX1Z := Aside0.mk (HWZ2.out 1)
              have HX3Z := Aside0.mk (HWZ2.out 3)
              have HSEC := Aside0.mk (show (secOk [x1, x2, x3] = false → getV t = none) from HV6.out)
              have HCE := Aside0.mk (show ∀ b : Bool, (x2.toList == [115, 116, 97, 114, 116]) = b → decide (x2 = sStart) = b from fun b hb => by
                have e : sStart.toList = [115, 116, 97, 114, 116] := by rw [Lib.toList_data]; rfl
                cases b with
                | true => exact decide_eq_true (string_inj (by rw [e]; exact hb))
                | false => exact decide_eq_false (string_ne (by rw [e]; exact hb)))
              cases q5 : (x2.toList == [115, 116, 97, 114, 116]) with
              | false =>
                have HN := Aside0.mk (HSEC.out (by show (decide (x2 = sStart) && okW x1 && okW x3) = false; rw [HCE.out _ q5]; rfl))
                go_wp2
                exact get_panic (getR_bad HSZ.out HN.out) (HG5.out).g _ rfl rfl
              | true =>
                have HX2 := Aside0.mk (HCE.out _ q5)
                have HN1 := Aside0.mk (number_calls x1 w4 (by have : x1.size ≤ 65536 := HX1Z.out; omega))
                go_wp2_with fail
                refine (HN1.out).mono ?_
                rintro E w5 ⟨rfl, hb⟩
                have HG6 := Aside0.mk ((HG5.out).below hb)
                have HR6 := Aside0.mk (Kd.R_below HR5.out hb)
                have HWS6 := Aside0.mk (blk_below HWS2.out hb)
                clear hb HG5 HR5 HWS2 z1 z2 z3 HN1 q5
                cases q6 : okW x1 with
                | false =>
                  have HN := Aside0.mk (HSEC.out (by show (decide (x2 = sStart) && okW x1 && okW x3) = false; rw [q6, HX2.out]; rfl))
                  rw [show numE x1.data.toList = pbad by unfold numE; rw [show numOk x1.data.toList = false from q6]; rfl]
                  unfold pbad
                  go_wp2
                  exact get_panic (getR_bad HSZ.out HN.out) (HG6.out).g _ rfl rfl
                | true =>
                rw [show numE x1.data.toList = .returned (.int .i64 (valW x1)) by unfold numE; rw [show numOk x1.data.toList = true from q6]; rfl]
                have HX1 := Aside0.mk q6
                have HN3 := Aside0.mk (number_calls x3 w5 (by have : x3.size ≤ 65536 := HX3Z.out; omega))
                have z3 : w5.cell? ⟨bw2, 3, none⟩ = some (.string x3) := (blk_cell HWS6.out 3).trans rfl
                clear q6
                go_wp2_with fail
                refine (HN3.out).mono ?_
                rintro E w6 ⟨rfl, hb⟩
                have HG7 := Aside0.mk ((HG6.out).below hb)
                have HR7 := Aside0.mk (Kd.R_below HR6.out hb)
                clear hb HG6 HR6 HWS6 z3 HN3
                cases q7 : okW x3 with
                | false =>
                  have HN := Aside0.mk (HSEC.out (by show (decide (x2 = sStart) && okW x1 && okW x3) = false; rw [q7, HX1.out, HX2.out]; rfl))
                  rw [show numE x3.data.toList = pbad by unfold numE; rw [show numOk x3.data.toList = false from q7]; rfl]
                  unfold pbad
                  go_wp2
                  exact get_panic (getR_bad HSZ.out HN.out) (HG7.out).g _ rfl rfl
                | true =>
                rw [show numE x3.data.toList = .returned (.int .i64 (valW x3)) by unfold numE; rw [show numOk x3.data.toList = true from q7]; rfl]
                have HX3 := Aside0.mk q7
                clear q7
                obtain ⟨k0, k1, k2, k3⟩ := (HG7.out).g.cells
                obtain ⟨f0, f1, f2, f3⟩ := (HG7.out).g.frozen
                go_upto_region 17 with (fail)
                have HG8 := Aside0.mk ((HG7.out).set1 (.int .i64 (valW x3)))
                have HR8 := Aside0.mk (Kd.R_far HR7.out (p := ⟨w.heap.size, 1, none⟩) (fun k hk he => by have h0 : k = w.heap.size := he; omega) (.int .i64 (valW x3)))
                generalize w6.setCell ⟨w.heap.size, 1, none⟩ (.int .i64 (valW x3)) = w7 at *
                clear HG7 HR7 k0 k1 k2 k3 f0 f1 f2 f3 HX1Z HX3Z HSEC HCE HV6 HWZ2
                have HST := Aside0.mk (num_nonneg HX1.out)
                generalize hst : valW x1 = states at *
                have HSTE := Aside0.mk hst
                clear hst
                have HV := Aside0.mk (getV_main hLL HL3.out (HLEE.out.trans HLEM.out) HS0.out HWS0.out HHD.out HWD.out HALL.out HS1.out HWS20.out HHD2.out (of_decide_eq_true HX2.out) HX1.out HX3.out)
                rw [HSTE.out] at HV
                clear HV1 HV3 HV5 HLE HLEE HLEM HS0 HS0Z HHD HWS0 HALL HS1Z HS1 HHD2 HWS20 HX2 HX3 HO2 HBW HBW2 hLL
                obtain ⟨N, hN⟩ : ∃ N : Nat, (if states < 7 then states else 7) = (N : Int) := ⟨(if states < 7 then states else 7).toNat, by have := HST.out; split <;> omega⟩
                have HN7 := Aside0.mk (show N ≤ 7 ∧ N = (min states 7).toNat from by split at hN <;> omega)
                have hmk : ∀ W : World, (Instr.makeSlice 65 (.int .i64 (wd.length : Int)) (.int .i64 (wd.length : Int))).run Tryz.prog W = .ok (.slice (some ⟨W.heap.size, 0, none⟩) wd.length wd.length) (W.alloc (.cells (madeCells #[.slice none 0 0] wd.length) 66)) := fun W => run_make_row' 65 66 (.slice none 0 0) 24 Tryz.underlying65 Q.info66 rfl .i64 .i64 wd.length (by have := HWL.out; omega) (by have := HWL.out; omega) W
                have hmin : min states 7 = (N : Int) := by have := (HN7.out).2; have := HST.out; omega
                go_wp2
                clear hmin
                go_loopg [85] N (fun gg v85 wi => ∃ (j : Nat) (A2 : Option Addr) (c2 : Nat) (gs : List Nat) (u : Nat → Nat → Value), j ≤ N ∧ N - j ≤ gg ∧ v85 = .int .i64 j ∧ Aside0 (GL w wi (.slice A wd.length c) (.int .i64 (valW x3)) (.slice A2 j c2) bl L) ∧ Aside0 (Kd.R (Kd.int .i64) 3 wi w.heap.size (fun k => w.heap.size + 2 ≤ k) (.slice A wd.length c) (wd.map valW)) ∧ Aside0 (MM w.heap.size (w.heap.size + 2) wi (.slice A2 j c2) (List.replicate j (List.replicate wd.length [])) wd.length gs u))
                case atStart => exact ⟨0, none, 0, [], _, Nat.zero_le _, Nat.le_refl _, rfl, HG8, HR8, ⟨MM.start _ _ _ _⟩⟩
                case round =>
                  clear HG8 HR8
                  obtain ⟨j, A2, c2, gs, u, hj, hgg, rfl, HG9, HR9, HMM⟩ := hrel
                  by_cases hlt : j < N
                  · have hltz : (j : Int) < (N : Int) := by omega
                    have HLT := Aside0.mk hlt
                    go_upto_region 19 with (fail)
                    obtain ⟨k0, k1, k2, k3⟩ := (HG9.out).g.cells
                    have hb1 := below_drew (Below.refl wr.heap.size wr)
                    have hb2 := below_alloc hb1 (.cells (madeCells #[.slice none 0 0] wd.length) 66)
                    have hnew := blk_new wr.drew (.cells (madeCells #[.slice none 0 0] wd.length) 66)
                    have m0 := pw_cell_below hb2 k0
                    have m2 := pw_cell_below hb2 k2
                    have HGA := Aside0.mk ((HG9.out).below hb2)
                    have HRA := Aside0.mk (Kd.R_below HR9.out hb2)
                    have HMA := Aside0.mk ((HMM.out).below hb2)
                    have q0_ := pw_cell_below (below_alloc (Below.refl wr.heap.size wr) (.cells (madeCells #[.slice none 0 0] wd.length) 66)) k0
                    have q2_ := pw_cell_below (below_alloc (Below.refl wr.heap.size wr) (.cells (madeCells #[.slice none 0 0] wd.length) 66)) k2
                    have l0 := pw_cell_below (below_alloc (Below.refl (wr.alloc (.cells (madeCells #[.slice none 0 0] wd.length) 66)).heap.size (wr.alloc (.cells (madeCells #[.slice none 0 0] wd.length) 66))) (.cells #[.slice (some ⟨wr.heap.size, 0, none⟩) wd.length wd.length] 65)) q0_
                    have l2 := pw_cell_below (below_alloc (Below.refl (wr.alloc (.cells (madeCells #[.slice none 0 0] wd.length) 66)).heap.size (wr.alloc (.cells (madeCells #[.slice none 0 0] wd.length) 66))) (.cells #[.slice (some ⟨wr.heap.size, 0, none⟩) wd.length wd.length] 65)) q2_
                    have HNEW := Aside0.mk (show (wr.drew.alloc (.cells (madeCells #[.slice none 0 0] wd.length) 66)).heap[wr.heap.size]? = some (.cells (Array.replicate wd.length (.slice none 0 0)) 66 (0, 0)) from by rw [← made_rep]; exact hnew)
                    have HGSL := Aside0.mk (show gs.length = j by rw [(HMM.out).len]; simp)
                    have HGLT := Aside0.mk (show ∀ q, q < (List.replicate j (List.replicate wd.length ([] : List (List Nd)))).length → gs.getD q 0 ≠ wr.heap.size from fun q hq => by have := blk_lt ((HMM.out).rows q hq).2.1; omega)
                    have HB2 := Aside0.mk (show w.heap.size + 2 ≤ wr.heap.size from by have := blk_lt (HG9.out).l; have := (HG9.out).hbl; omega)
                    clear hb1 hb2 hnew
                    refine wp_region_noPanic ?_
                    go_region_law (first
                      | (refine Kd.R_append_step (kRow wd.length) (w0 := w) (W := wr.drew.alloc (.cells (madeCells #[.slice none 0 0] wd.length) 66)) w.heap.size (by simp [Region.wanted]) (.tmp 88) (.tmp 93) 23 65 (.slice none 0 0) 24 rfl Tryz.underlying23 Q.info65 rfl (show 0 < 1 by decide) (by decide) (.slice A2 j c2) gs wr.heap.size [.slice (some ⟨wr.heap.size, 0, none⟩) wd.length wd.length] (fun k => w.heap.size + 2 ≤ k) (fun _ => False) (by rfl) (by show Value.slice (some ⟨wr.heap.size + 1, 0, none⟩) 1 1 = _; simp) rfl (fun _ hk => hk.elim) (fun k hk => by have := blk_lt (HGA.out).l; have := (HGA.out).hbl; omega) (HMA.out).row (HGA.out).g.hb (HGA.out).g.hb.size (by rw [HGSL.out]; have := (HN7.out).1; have := HLT.out; omega) ?_; intro v5 w5 ho5 hb5 hg5 hat5; have HMP := Aside0.mk ((HMA.out).push wr.heap.size HNEW.out HB2.out HGLT.out ho5 hg5); (obtain ⟨A5, c5, e5⟩ := Kd.R_slice ho5); rw [List.length_append, HGSL.out, List.length_singleton] at e5; subst e5; have HGP := Aside0.mk ((HGA.out).app (HMA.out).row (by decide) hb5 hg5); have HRP := Aside0.mk (R_grown9 HRA.out (HMA.out).row (by decide) (fun _ h => by cases h) hg5); clear ho5 hb5 hg5 hat5; obtain ⟨n0, n1, n2, n3⟩ := (HGP.out).g.cells; obtain ⟨g0, g1, g2, g3⟩ := (HGP.out).g.frozen)
                      | fail)
                    all_goals
                      refine NoPanic.normal ?_
                      go_wp2
                      go_roundg (N - (j + 1))
                      case measure => have := HLT.out; omega
                      case rel => exact ⟨j + 1, A5, c5, gs ++ [wr.heap.size], _, HLT.out, Nat.le_refl _, rfl, ⟨(HGP.out).set2 _⟩, ⟨Kd.R_far HRP.out (p := ⟨w.heap.size, 2, none⟩) (fun k hk he => by have h0 : k = w.heap.size := he; omega) _⟩, ⟨by rw [List.replicate_succ']; exact (HMP.out).far (by omega) _⟩⟩
                  · obtain rfl : N = j := by omega
                    clear hlt hj hgg hmk
                    rw [← (HN7.out).2] at HV
                    have hl3 := HL3.out
                    obtain ⟨n, hn⟩ : ∃ n, L.length = n + 3 := ⟨L.length - 3, by omega⟩
                    have HNL := Aside0.mk hn
                    have HLN := Aside0.mk (show n ≤ 65536 from by have := HLS.out; omega)
                    go_upto_region 22 with (fail)
                    rw [hn]
                    have hz1 : wrap64 ((n : Int) + 3 - 1) = (n : Int) + 2 := by rw [wr_id (by omega) (by have := HLN.out; omega)]; omega
                    have hz2 : (0 : Int) ≤ (n : Int) + 2 ∧ (n : Int) + 2 ≤ (n : Int) + 3 := by omega
                    have hz3 : max ((n : Int) + 2) 0 = (n : Int) + 2 := by omega
                    have hz4 : (2 : Int) ≤ (n : Int) + 2 := by omega
                    have hz5 : ((n : Int) + 2).toNat = n + 2 := by omega
                    go_wp2
                    have HV2 := Aside0.mk (show getV t = (gstep states wd.length ((L.drop 2).take n) (-1) (List.replicate N (List.replicate wd.length []))).map fun M => (wd.map valW, valW x3, M) from by have h0 := HV.out; rw [HNL.out] at h0; exact h0)
                    refine loop26 t w L wd n N bl _ A c A2 c2 (valW x3) states _ _ (List.replicate N (List.replicate wd.length [])) gs u _ _ _ _ _ _ _ _ _ _ _ _ _ _ _ _ _ _ _ _ _ _ _ _ _ _ _ _ _ _ _ _ _ _ _ _ _ _ _ _ _ _ _ _ _ _ _ _ _ _ _ _ _ _ _ _ _ _ _ _ _ _ _ _ _ _ _ _ _ _ _ _ _ _ _ _ _ _ _ _ _ _ _ _ _ _ _ _ _ _ _ _ _ _ _ _ _ _ _ _ _ _ _ _ _ _ _ _ _ _ _ _ _ _ _ _ _ _ _ _ _ _ _ _ _ _ _ _ _ _ _ _ _ _ _ _ _ _ _ _ _ _ _ _ _ _ _ _ _ _ _ _ _ _ _ _ _ _ _ _ _ _ _ _ _ _ _ _ _ _ _ _ _ _ _ _ _ _ _ _ _ _ _ _ _ HSZ HM HCS HWL HNL HLN HN7 HST ⟨List.length_replicate⟩ ⟨fun a b => by simp [List.getD_eq_getElem?_getD, List.getElem?_replicate]; split <;> simp [List.getElem?_replicate]; split <;> simp⟩ HG9 HR9 HMM HV2 ?_
                    clear HG9 HR9 HMM HV2 HV hz1 hz2 hz3 hz4 hz5
                    refine ⟨?_⟩
                    intro u9 u11 u12 u13 u14 u15 u16 u17 u18 u19 u20 u103 u104 u105 u106 u107 u108 u109 u110 u111 u112 u113 u114 u115 u116 u117 u118 u119 u120 u121 u122 u123 u124 u125 u126 u127 u128 u129 u130 u131 u132 u133 u134 u135 u136 u137 u138 u139 u140 u141 u142 u143 u144 u145 u146 u147 u148 u149 u150 u151 u152 u153 u154 u155 u156 u157 u158 u159 u160 u161 u162 u163 u164 u165 u166 u167 u168 u169 u170 u171 u172 u173 u174 u175 u176 u177 u178 u179 u180 u181 u182 u183 u184 u185 u186 W M gs uu hG hR hM hL hVV
                    have HG := Aside0.mk hG
                    have hrd := Kd.R_reads' hR
                    obtain ⟨A2', c2', e, hle, hCM⟩ := hM.reads (by have := HWL.out; omega)
                    injection e with e1 e2 e3
                    subst e1 e3
                    have HCK := Aside0.mk (acheckG_calls (wd.map valW) M (valW x3) A c A2 c2 W hrd.2.2 (by rw [List.length_map]; exact hrd.2.1) hCM)
                    have HR := Aside0.mk hR
                    have HMM := Aside0.mk hM
                    have HL := Aside0.mk hL
                    have HVV := Aside0.mk hVV
                    rw [List.length_map, hL] at HCK
                    obtain ⟨k0, k1, k2, k3⟩ := hG.g.cells
                    clear e2 hG hR hM hrd hle hCM hL hVV
                    cases hq : auB (wd.map valW) (valW x3) M with
                    | false =>
                      rw [chk_false hq] at HCK
                      have HRR := Aside0.mk (show getR t = (10, [], 0, []) by unfold getR; rw [if_neg (by have := HSZ.out; omega), HVV.out]; simp only; rw [if_neg (by rw [chk_false hq]; decide)])
                      clear hq
                      go_wp2_with fail
                      refine (HCK.out).mono ?_
                      rintro E W2 ⟨rfl, hb⟩
                      have HG2 := Aside0.mk ((HG.out).below hb)
                      clear hb k0 k1 k2 k3
                      obtain ⟨k0, k1, k2, k3⟩ := (HG2.out).g.cells
                      obtain ⟨f0, f1, f2, f3⟩ := (HG2.out).g.frozen
                      have HQ := Aside0.mk ((((HG2.out).g.set0 (.slice none 0 0)).set1 (.int .i64 0)).set2 (.slice none 0 0))
                      go_wp2
                      exact get_done (A1 := none) (A2 := none) (c1 := 0) (c2 := 0) (rk := []) (M := []) HRR.out ((HQ.out).hb.setCell (p := ⟨w.heap.size + 1, 0, none⟩) (Nat.le_succ _) _) (blk_far (HQ.out).ha (by show w.heap.size ≠ w.heap.size + 1; omega) _) (blk_set (HQ.out).he 0 _) ⟨rfl, by simp, fun h => absurd h (by simp)⟩ (Nat.le_refl _) ⟨rfl, by simp, fun h => absurd h (by simp)⟩ (Nat.le_refl _) _ rfl rfl
                    | true =>
                      rw [chk_true hq] at HCK
                      have HRR := Aside0.mk (show getR t = (0, wd.map valW, valW x3, M) by unfold getR; rw [if_neg (by have := HSZ.out; omega), HVV.out]; simp only; rw [if_pos (chk_true hq)])
                      clear hq
                      go_wp2_with fail
                      refine (HCK.out).mono ?_
                      rintro E W2 ⟨rfl, hb⟩
                      have HG2 := Aside0.mk ((HG.out).below hb)
                      have HR2 := Aside0.mk (Kd.R_below HR.out hb)
                      have HM2 := Aside0.mk ((HMM.out).below hb)
                      clear hb k0 k1 k2 k3
                      obtain ⟨k0, k1, k2, k3⟩ := (HG2.out).g.cells
                      obtain ⟨f0, f1, f2, f3⟩ := (HG2.out).g.frozen
                      have HQ := Aside0.mk ((((HG2.out).g.set0 (.slice A wd.length c)).set1 (.int .i64 (valW x3))).set2 (.slice A2 N c2))
                      have HR3 := Aside0.mk (fun (a : Nat) (ha : a < w.heap.size + 2) (o : Nat) (y : Value) (W3 : World) (h3 : Kd.R (Kd.int .i64) 3 W3 w.heap.size (fun k => w.heap.size + 2 ≤ k) (.slice A wd.length c) (wd.map valW)) => Kd.R_far h3 (p := ⟨a, o, none⟩) (fun k hk he => by have h0 : k = a := he; omega) y)
                      have HM3 := Aside0.mk (fun (a : Nat) (ha : a < w.heap.size + 2) (o : Nat) (y : Value) (W3 : World) (h3 : MM w.heap.size (w.heap.size + 2) W3 (.slice A2 N c2) M wd.length gs uu) => h3.far (a := a) (j := o) ha y)
                      go_wp2
                      have hr := Kd.R_reads' (HR3.out (w.heap.size + 1) (by omega) 0 (.int .i64 0) _ (HR3.out w.heap.size (by omega) 2 (.slice A2 N c2) _ (HR3.out w.heap.size (by omega) 1 (.int .i64 (valW x3)) _ (HR3.out w.heap.size (by omega) 0 (.slice A wd.length c) _ HR2.out))))
                      have hm := HM3.out (w.heap.size + 1) (by omega) 0 (.int .i64 0) _ (HM3.out w.heap.size (by omega) 2 (.slice A2 N c2) _ (HM3.out w.heap.size (by omega) 1 (.int .i64 (valW x3)) _ (HM3.out w.heap.size (by omega) 0 (.slice A wd.length c) _ HM2.out)))
                      obtain ⟨A2', c2', e, hle, hCM⟩ := hm.reads (by have := HWL.out; omega)
                      injection e with e1 e2 e3
                      subst e1 e3
                      exact get_done (A1 := A) (A2 := A2) (c1 := c) (c2 := c2) (rk := wd.map valW) (M := M) HRR.out ((HQ.out).hb.setCell (p := ⟨w.heap.size + 1, 0, none⟩) (Nat.le_succ _) _) (by rw [List.length_map, HL.out]; exact blk_far (HQ.out).ha (by show w.heap.size ≠ w.heap.size + 1; omega) _) (blk_set (HQ.out).he 0 _) hr.2.2 (by rw [List.length_map]; exact hr.2.1) hCM hle _ rfl rfl
            · have h3z : ¬ (((ws2.drop 1).length : Int) = 3) := by omega
              have HN := Aside0.mk (HV6.out (by
                unfold secOk
                split
                · rename_i h; rw [h] at h3; exact absurd rfl h3
                · rfl))
              generalize (ws2.drop 1).length = nn at *
              go_wp2
              exact get_panic (getR_bad HSZ.out HN.out) (HG5.out).g _ rfl rfl
end Go.Proofs.YtbmcigakiibncaaGreatDoor.H
namespace Go.Proofs.YtbmcigakiibncaaGreatDoor.H
open Go.RowKit Go.Proofs.YtbmcigakiibncaaGreatDoorW.PrintWords Go.Proofs.YtbmcigakiibncaaGreatDoorW.PrintLast Go.Proofs.YtbmcigakiibncaaGreatDoorW.PrintMore
open Go.Proofs.YtbmcigakiibncaaGreatDoor.Q (S28 k28)
set_option linter.unusedVariables false
set_option linter.unusedSimpArgs false
def exT : ByteArray := ⟨#[114, 97, 110, 107, 115, 32, 50, 32, 49, 32, 48, 10, 115, 116, 97, 116, 101, 115, 32, 49, 32, 115, 116, 97, 114, 116, 32, 48, 10, 48, 32, 48, 58, 32, 48, 46, 48, 32, 49, 46, 48, 10, 48, 32, 50, 58, 10]⟩
def rk0 : List Int := [2, 1, 0]
def M0 : Mv := [[[[⟨0, 0⟩, ⟨1, 0⟩]], [], [[]]]]
def D0 : Mv := [[[[⟨0, 0⟩], [⟨1, 0⟩]], [[]], []]]
def c0T : S28 := ⟨2, []⟩
def b0T : S28 := ⟨1, [⟨2, []⟩]⟩
def exD : List UInt8 := [114, 97, 110, 107, 115, 32, 50, 32, 49, 32, 48, 10, 115, 116, 97, 116, 101, 115, 32, 49, 32, 115, 116, 97, 114, 116, 32, 48, 10, 48, 32, 48, 58, 32, 48, 46, 48, 10, 48, 32, 48, 58, 32, 49, 46, 48, 10, 48, 32, 49, 58, 10]
theorem ex_get : getR exT = (0, rk0, 0, M0) := by kernel_rfl
theorem ex_dual : dualR rk0 0 M0 = (0, rk0, 0, D0) := by kernel_rfl
theorem ex_put : putR rk0 0 D0 = (exD, 0) := by kernel_rfl
theorem ex_is1 : isV rk0 0 M0 0 c0T = true ∧ stErr rk0 0 M0 0 c0T = 0 := ⟨by kernel_rfl, by kernel_rfl⟩
theorem ex_is2 : isV rk0 0 M0 0 b0T = false ∧ stErr rk0 0 M0 0 b0T = 0 := ⟨by kernel_rfl, by kernel_rfl⟩
theorem ex_is3 : isV rk0 0 D0 1 b0T = true ∧ stErr rk0 0 D0 1 b0T = 0 := ⟨by kernel_rfl, by kernel_rfl⟩
theorem get0_calls (w : World) (hm : MX w) : Calls Tryz.prog 26 #[.string exT] w fun E w' => ∃ A1 c1 A2 c2, E = .returned (.tuple #[.agg #[.slice A1 rk0.length c1, .int .i64 0, .slice A2 M0.length c2], .int .i64 0]) ∧ Kd.C (Kd.int .i64) w' A1 rk0.length rk0 ∧ rk0.length ≤ c1 ∧ Kd.C kA3 w' A2 M0.length M0 ∧ Below w.heap.size w w' := by
  refine (get_calls exT w hm).mono ?_
  intro E w' h
  unfold GetE at h
  rw [ex_get] at h
  obtain ⟨A1, c1, A2, c2, rfl, h1, h2, h3, h4, h5⟩ := h
  exact ⟨A1, c1, A2, c2, rfl, h1, h2, h3, h5⟩
theorem dual0_calls (A1 : Option Addr) (c1 : Nat) (A2 : Option Addr) (c2 : Nat) (w : World) (hr : Kd.C (Kd.int .i64) w A1 rk0.length rk0) (hc1 : rk0.length ≤ c1) (hM : Kd.C kA3 w A2 M0.length M0) (ht : TabD w) :
    Calls Tryz.prog 21 #[.agg #[.slice A1 rk0.length c1, .int .i64 0, .slice A2 M0.length c2]] w fun E w' => ∃ A1 c1 A2 c2, E = .returned (.tuple #[.agg #[.slice A1 rk0.length c1, .int .i64 0, .slice A2 D0.length c2], .int .i64 0]) ∧ Kd.C (Kd.int .i64) w' A1 rk0.length rk0 ∧ rk0.length ≤ c1 ∧ Kd.C kA3 w' A2 D0.length D0 ∧ Below w.heap.size w w' := by
  refine (adual_calls rk0 M0 0 A1 c1 A2 c2 w hr hc1 hM ht).mono ?_
  intro E w' h
  unfold DualRE at h
  rw [ex_dual] at h
  obtain ⟨v1, v2, rfl, h1, h2, h3⟩ := h
  obtain ⟨A3, c3, rfl⟩ := Kd.R_slice h1
  obtain ⟨A4, c4, rfl⟩ := Kd.R_slice h2
  have r1 := Kd.R_reads' h1
  have r2 := Kd.R_reads' h2
  exact ⟨A3, c3, A4, c4, rfl, r1.2.2, r1.2.1, r2.2.2, h3⟩
theorem C_nilT (w : World) : Kd.C k28 w none 0 [] := ⟨rfl, by simp, fun h => absurd h (by simp)⟩
theorem C_oneT {w : World} {g : Nat} {f0 : Int} (h : w.heap[g]? = some (.cells #[.int .i64 f0, .slice none 0 0] 28 (0, 0))) : Kd.C k28 w (some ⟨g, 0, none⟩) 1 [⟨f0, []⟩] := by
  refine ⟨rfl, by simp, fun _ => ⟨_, rfl, fun j p hj => ?_⟩⟩
  have hj0 : j = 0 := by
    have := (List.getElem?_eq_some_iff.1 hj).1
    simpa using this
  subst hj0
  obtain rfl : (⟨f0, []⟩ : S28) = p := by simpa using hj
  refine ⟨[.int .i64 f0, .slice none 0 0], rfl, Q.k28_mk w ⟨f0, []⟩ (A1 := none) (c1 := 0) (Nat.le_refl _) (C_nilT w), fun i u hu => ?_⟩
  rw [show (Addr.add ⟨g, 0, none⟩ (0 * k28.sz + i)) = ⟨g, i, none⟩ by rw [Nat.zero_mul, Nat.zero_add]; simp [Addr.add]; exact fun e => e.symm, blk_cell h i]
  match i, hu with
  | 0, hu => simpa using hu
  | 1, hu => simpa using hu
  | i + 2, hu => simp at hu
theorem box3_of {W : World} {b : Nat} {x y z : Value} (h : W.heap[b]? = some (.cells #[x, y, z] 25 (0, 0))) : W.cell? ⟨b, 0, none⟩ = some x ∧ W.cell? ⟨b, 1, none⟩ = some y ∧ W.cell? ⟨b, 2, none⟩ = some z := ⟨(blk_cell h 0).trans rfl, (blk_cell h 1).trans rfl, (blk_cell h 2).trans rfl⟩
theorem box2_of {W : World} {b : Nat} {x y : Value} (h : W.heap[b]? = some (.cells #[x, y] 28 (0, 0))) : W.cell? ⟨b, 0, none⟩ = some x ∧ W.cell? ⟨b, 1, none⟩ = some y := ⟨(blk_cell h 0).trans rfl, (blk_cell h 1).trans rfl⟩
theorem exD_list : (⟨exD.toArray⟩ : ByteArray).toList = exD := by rw [Lib.toList_data]
theorem is1_calls (A1 : Option Addr) (c1 : Nat) (A2 : Option Addr) (c2 : Nat) (w : World) (hr : Kd.C (Kd.int .i64) w A1 rk0.length rk0) (hc1 : rk0.length ≤ c1) (hM : Kd.C kA3 w A2 M0.length M0) (hT : Tab w) :
    Calls Tryz.prog 15 #[.agg #[.slice A1 rk0.length c1, .int .i64 0, .slice A2 M0.length c2], .int .i64 0, .agg #[.int .i64 2, .slice none 0 0]] w fun E w' => E = .returned (.tuple #[.bool true, .int .i64 0]) ∧ Below w.heap.size w w' := by
  have h := aisG_calls rk0 M0 0 0 c0T A1 c1 A2 c2 none 0 w hr hc1 hM (C_nilT w) (Nat.le_refl _) hT
  rw [ex_is1.1, ex_is1.2] at h
  exact h
theorem is2_calls (A1 : Option Addr) (c1 : Nat) (A2 : Option Addr) (c2 : Nat) (g : Nat) (w : World) (hr : Kd.C (Kd.int .i64) w A1 rk0.length rk0) (hc1 : rk0.length ≤ c1) (hM : Kd.C kA3 w A2 M0.length M0) (hg : w.heap[g]? = some (.cells #[.int .i64 2, .slice none 0 0] 28 (0, 0))) (hT : Tab w) :
    Calls Tryz.prog 15 #[.agg #[.slice A1 rk0.length c1, .int .i64 0, .slice A2 M0.length c2], .int .i64 0, .agg #[.int .i64 1, .slice (some ⟨g, 0, none⟩) 1 1]] w fun E w' => E = .returned (.tuple #[.bool false, .int .i64 0]) ∧ Below w.heap.size w w' := by
  have h := aisG_calls rk0 M0 0 0 b0T A1 c1 A2 c2 (some ⟨g, 0, none⟩) 1 w hr hc1 hM (C_oneT hg) (Nat.le_refl _) hT
  rw [ex_is2.1, ex_is2.2] at h
  exact h
theorem is3_calls (A1 : Option Addr) (c1 : Nat) (A2 : Option Addr) (c2 : Nat) (g : Nat) (w : World) (hr : Kd.C (Kd.int .i64) w A1 rk0.length rk0) (hc1 : rk0.length ≤ c1) (hM : Kd.C kA3 w A2 D0.length D0) (hg : w.heap[g]? = some (.cells #[.int .i64 2, .slice none 0 0] 28 (0, 0))) (hT : Tab w) :
    Calls Tryz.prog 15 #[.agg #[.slice A1 rk0.length c1, .int .i64 0, .slice A2 D0.length c2], .int .i64 1, .agg #[.int .i64 1, .slice (some ⟨g, 0, none⟩) 1 1]] w fun E w' => E = .returned (.tuple #[.bool true, .int .i64 0]) ∧ Below w.heap.size w w' := by
  have h := aisG_calls rk0 D0 0 1 b0T A1 c1 A2 c2 (some ⟨g, 0, none⟩) 1 w hr hc1 hM (C_oneT hg) (Nat.le_refl _) hT
  rw [ex_is3.1, ex_is3.2] at h
  exact h
theorem put0_calls (A1 : Option Addr) (c1 : Nat) (A2 : Option Addr) (c2 : Nat) (w : World) (hr : Kd.C (Kd.int .i64) w A1 rk0.length rk0) (hc1 : rk0.length ≤ c1) (hM : Kd.C kA3 w A2 D0.length D0) :
    Calls Tryz.prog 24 #[.agg #[.slice A1 rk0.length c1, .int .i64 0, .slice A2 D0.length c2]] w fun E w' => E = .returned (.tuple #[.string ⟨exD.toArray⟩, .int .i64 0]) ∧ Below w.heap.size w w' := by
  refine (put_calls rk0 D0 0 A1 c1 A2 c2 w hr hc1 hM).mono ?_
  intro E w' h
  unfold PutE at h
  rw [ex_put] at h
  exact h
set_option maxHeartbeats 16000000 in
set_option maxRecDepth 100000 in
theorem alive_calls (w : World) (hm : MX w) (ht : TabD w) : Calls Tryz.prog 18 #[] w fun E w' => E = .returned (.bool true) ∧ Below w.heap.size w w' := by
  have HG := Aside0.mk (get0_calls w hm)
  have HT := Aside0.mk ht
  unfold exT at HG
  clear hm ht
  go_enter Tryz.func18, Tryz.ntmps18
  go_wp2_with fail
  refine (HG.out).mono ?_
  rintro E W1 ⟨A1, c1, A2, c2, rfl, hr1, hc1, hM1, hb1⟩
  have HB1 := Aside0.mk hb1
  have HR1 := Aside0.mk hr1
  have HC1 := Aside0.mk hc1
  have HM1 := Aside0.mk hM1
  have hba := below_alloc (Below.refl W1.heap.size W1) (.cells #[.slice A1 rk0.length c1, .int .i64 0, .slice A2 M0.length c2] 25)
  have HX1 := Aside0.mk (blk_new W1 (.cells #[.slice A1 rk0.length c1, .int .i64 0, .slice A2 M0.length c2] 25))
  have HB2 := Aside0.mk (below_then hb1 hb1.size hba)
  have HR2 := Aside0.mk (Kd.C_below hr1 hba)
  have HM2 := Aside0.mk (Kd.C_below hM1 hba)
  clear hr1 hc1 hM1 hb1 hba HG HR1 HM1
  go_upto_region 2 with (fail)
  generalize W1.alloc (.cells #[.slice A1 rk0.length c1, .int .i64 0, .slice A2 M0.length c2] 25) = W2 at *
  generalize W1.heap.size = b1 at *
  obtain ⟨k0, k1, k2⟩ := box3_of HX1.out
  have HDU := Aside0.mk (dual0_calls A1 c1 A2 c2 W2 HR2.out HC1.out HM2.out ((HT.out).below HB2.out))
  go_wp2_with fail
  refine (HDU.out).mono ?_
  rintro E W3 ⟨A3, c3, A4, c4, rfl, hr3, hc3, hM3, hb3⟩
  have hba := below_alloc (Below.refl W3.heap.size W3) (.cells #[.slice A3 rk0.length c3, .int .i64 0, .slice A4 D0.length c4] 25)
  have hb4 := below_then hb3 hb3.size hba
  have HB4 := Aside0.mk (below_then HB2.out (HB2.out).size hb4)
  have HX1' := Aside0.mk (blk_below HX1.out hb4)
  have HR4 := Aside0.mk (Kd.C_below HR2.out hb4)
  have HM4 := Aside0.mk (Kd.C_below HM2.out hb4)
  have HX3 := Aside0.mk (blk_new W3 (.cells #[.slice A3 rk0.length c3, .int .i64 0, .slice A4 D0.length c4] 25))
  have HC3 := Aside0.mk hc3
  have HS4 := Aside0.mk (Kd.C_below hr3 hba)
  have HN4 := Aside0.mk (Kd.C_below hM3 hba)
  clear hr3 hc3 hM3 hb3 hba hb4 k0 k1 k2 HDU HX1 HR2 HM2 HB2
  go_upto_region 3 with (fail)
  generalize W3.alloc (.cells #[.slice A3 rk0.length c3, .int .i64 0, .slice A4 D0.length c4] 25) = W4 at *
  generalize W3.heap.size = b3 at *
  have hba := below_alloc (below_alloc (below_alloc (Below.refl W4.heap.size W4) (.cells #[.int .i64 2, .slice none 0 0] 28)) (.cells #[.int .i64 2, .slice none 0 0] 28)) (.cells #[.int .i64 1, .slice (some ⟨W4.heap.size + 1, 0, none⟩) 1 1] 28)
  have h5 := blk_alloc (blk_alloc (blk_new W4 (.cells #[.int .i64 2, .slice none 0 0] 28)) (.cells #[.int .i64 2, .slice none 0 0] 28)) (.cells #[.int .i64 1, .slice (some ⟨W4.heap.size + 1, 0, none⟩) 1 1] 28)
  have h6 := blk_alloc (blk_at2 W4 (.cells #[.int .i64 2, .slice none 0 0] 28) (.cells #[.int .i64 2, .slice none 0 0] 28)) (.cells #[.int .i64 1, .slice (some ⟨W4.heap.size + 1, 0, none⟩) 1 1] 28)
  have h7 := blk_new ((W4.alloc (.cells #[.int .i64 2, .slice none 0 0] 28)).alloc (.cells #[.int .i64 2, .slice none 0 0] 28)) (.cells #[.int .i64 1, .slice (some ⟨W4.heap.size + 1, 0, none⟩) 1 1] 28)
  have k5 := box2_of (blk_new W4 (.cells #[.int .i64 2, .slice none 0 0] 28))
  obtain ⟨k50, k51⟩ := k5
  have HB5 := Aside0.mk (below_then HB4.out (HB4.out).size hba)
  have HX5 := Aside0.mk (blk_below HX1'.out hba)
  have HY5 := Aside0.mk (blk_below HX3.out hba)
  have HR5 := Aside0.mk (Kd.C_below HR4.out hba)
  have HM5 := Aside0.mk (Kd.C_below HM4.out hba)
  have HS5 := Aside0.mk (Kd.C_below HS4.out hba)
  have HN5 := Aside0.mk (Kd.C_below HN4.out hba)
  have HT5 := Aside0.mk h5
  have HT6 := Aside0.mk h6
  rw [show ((W4.alloc (.cells #[.int .i64 2, .slice none 0 0] 28)).alloc (.cells #[.int .i64 2, .slice none 0 0] 28)).heap.size = W4.heap.size + 1 + 1 by simp] at h7
  have HT7 := Aside0.mk h7
  clear hba h5 h6 h7
  go_upto_region 5 with (fail)
  clear k50 k51
  generalize (((W4.alloc (.cells #[.int .i64 2, .slice none 0 0] 28)).alloc (.cells #[.int .i64 2, .slice none 0 0] 28)).alloc (.cells #[.int .i64 1, .slice (some ⟨W4.heap.size + 1, 0, none⟩) 1 1] 28)) = W5 at *
  generalize W4.heap.size = g at *
  have HI1 := Aside0.mk (fun (W : World) (hb : Below W5.heap.size W5 W) => is1_calls A1 c1 A2 c2 W (Kd.C_below HR5.out hb) HC1.out (Kd.C_below HM5.out hb) ((HT.out).tab.below (below_then HB5.out (HB5.out).size hb)))
  have HI2 := Aside0.mk (fun (W : World) (hb : Below W5.heap.size W5 W) => is2_calls A1 c1 A2 c2 (g + 1) W (Kd.C_below HR5.out hb) HC1.out (Kd.C_below HM5.out hb) (blk_below HT6.out hb) ((HT.out).tab.below (below_then HB5.out (HB5.out).size hb)))
  have HI3 := Aside0.mk (fun (W : World) (hb : Below W5.heap.size W5 W) => is3_calls A3 c3 A4 c4 (g + 1) W (Kd.C_below HS5.out hb) HC3.out (Kd.C_below HN5.out hb) (blk_below HT6.out hb) ((HT.out).tab.below (below_then HB5.out (HB5.out).size hb)))
  have HPU := Aside0.mk (fun (W : World) (hb : Below W5.heap.size W5 W) => put0_calls A3 c3 A4 c4 W (Kd.C_below HS5.out hb) HC3.out (Kd.C_below HN5.out hb))
  obtain ⟨k10, k11, k12⟩ := box3_of HX5.out
  obtain ⟨k50, k51⟩ := box2_of HT5.out
  go_wp2_with fail
  refine (HI1.out _ (Below.refl _ _)).mono ?_
  rintro E W6 ⟨rfl, hb6⟩
  have HB6 := Aside0.mk hb6
  clear k10 k11 k12 k50 k51 hb6
  obtain ⟨k10, k11, k12⟩ := box3_of (blk_below HX5.out HB6.out)
  obtain ⟨k60, k61⟩ := box2_of (blk_below HT7.out HB6.out)
  go_wp2_with fail
  refine (HI2.out _ HB6.out).mono ?_
  rintro E W7 ⟨rfl, hb7⟩
  have HB7 := Aside0.mk (below_then HB6.out (HB6.out).size hb7)
  clear k10 k11 k12 k60 k61 hb7
  obtain ⟨k10, k11, k12⟩ := box3_of (blk_below HY5.out HB7.out)
  obtain ⟨k60, k61⟩ := box2_of (blk_below HT7.out HB7.out)
  go_wp2_with fail
  refine (HI3.out _ HB7.out).mono ?_
  rintro E W8 ⟨rfl, hb8⟩
  have HB8 := Aside0.mk (below_then HB7.out (HB7.out).size hb8)
  clear k10 k11 k12 k60 k61 hb8
  obtain ⟨k10, k11, k12⟩ := box3_of (blk_below HY5.out HB8.out)
  go_wp2_with fail
  refine (HPU.out _ HB8.out).mono ?_
  rintro E W9 ⟨rfl, hb9⟩
  have HB9 := Aside0.mk (below_then HB5.out (HB5.out).size (below_then HB8.out (HB8.out).size hb9))
  have hex := exD_list
  unfold exD at hex ⊢
  clear k10 k11 k12 hb9
  go_wp2
  go_ret
  exact ⟨rfl, HB9.out⟩
end Go.Proofs.YtbmcigakiibncaaGreatDoor.H
namespace Go.Proofs.YtbmcigakiibncaaGreatDoor.H
open Go.RowKit Go.Proofs.YtbmcigakiibncaaGreatDoorW.PrintWords Go.Proofs.YtbmcigakiibncaaGreatDoorW.PrintLast Go.Proofs.YtbmcigakiibncaaGreatDoorW.PrintMore
set_option linter.unusedVariables false
set_option linter.unusedSimpArgs false
theorem TX.cells {w W : World} {x y z : Value} (h : TX w x y z W) : W.cell? ⟨w.heap.size, 0, none⟩ = some x ∧ W.cell? ⟨w.heap.size, 1, none⟩ = some y ∧ W.cell? ⟨w.heap.size, 2, none⟩ = some z :=
  ⟨(blk_cell h.box 0).trans rfl, (blk_cell h.box 1).trans rfl, (blk_cell h.box 2).trans rfl⟩
end Go.Proofs.YtbmcigakiibncaaGreatDoor.H
namespace Go.Proofs.YtbmcigakiibncaaGreatDoor.H
open Go.RowKit Go.Proofs.YtbmcigakiibncaaGreatDoorW.PrintWords Go.Proofs.YtbmcigakiibncaaGreatDoorW.PrintLast Go.Proofs.YtbmcigakiibncaaGreatDoorW.PrintMore
open Go.Proofs.YtbmcigakiibncaaGreatDoor.Q (S28 k28)
set_option linter.unusedVariables false
set_option linter.unusedSimpArgs false
def bsF (n : Nat) (p : Nat → Bool) : List Bool := (List.range n).map p
theorem bsF_len (n : Nat) (p : Nat → Bool) : (bsF n p).length = n := by simp [bsF]
theorem bsF_at {n : Nat} {p : Nat → Bool} {i : Nat} (h : i < n) : (bsF n p)[i]? = some (p i) := by simp [bsF, h]
theorem bsF_getD {n : Nat} {p : Nat → Bool} {i : Nat} (h : i < n) : (bsF n p).getD i false = p i := by rw [List.getD_eq_getElem?_getD, bsF_at h]; rfl
theorem bsF_congr {n : Nat} {p q : Nat → Bool} (h : ∀ i, i < n → p i = q i) : bsF n p = bsF n q := by
  unfold bsF
  exact List.map_congr_left fun i hi => h i (List.mem_range.1 hi)
theorem bsF_set {n : Nat} {p : Nat → Bool} {i : Nat} (b : Bool) : (bsF n p).set i b = bsF n (fun j => if j = i then b else p j) := by
  apply List.ext_getElem?
  intro j
  rw [List.getElem?_set]
  by_cases hj : j < n
  · rw [bsF_at (p := fun j => if j = i then b else p j) hj]
    by_cases e : i = j
    · subst e; rw [bsF_len, if_pos rfl, if_pos hj, if_pos rfl]
    · rw [if_neg e, bsF_at hj, if_neg (fun h => e h.symm)]
  · rw [List.getElem?_eq_none (l := bsF n (fun j => if j = i then b else p j)) (by rw [bsF_len]; omega)]
    by_cases e : i = j
    · subst e; rw [bsF_len, if_pos rfl, if_neg hj]
    · rw [if_neg e, List.getElem?_eq_none (by rw [bsF_len]; omega)]
def bCells (bs : List Bool) : Array Value := (bs.map Value.bool).toArray
theorem bCells_made (n : Nat) : madeCells #[.bool false] n = bCells (bsF n fun _ => false) := by
  rw [made_rep]
  unfold bCells bsF
  apply Array.ext'
  rw [List.map_map, show (Value.bool ∘ fun (x : Nat) => false) = Function.const Nat (Value.bool false) from rfl, List.map_const, List.length_range]
  simp
theorem bCells_at {bs : List Bool} {i : Nat} {b : Bool} (h : bs[i]? = some b) : (bCells bs)[i]? = some (.bool b) := by
  unfold bCells
  simp [h]
theorem bCells_set (bs : List Bool) (i : Nat) (b : Bool) : (bCells bs).setIfInBounds i (.bool b) = bCells (bs.set i b) := by
  unfold bCells
  apply Array.ext'
  simp [List.map_set]
theorem R_bools {W : World} {g base : Nat} {bs : List Bool} (h : W.heap[g]? = some (.cells (bCells bs) 4 (0, 0))) (hb : base ≤ g) (hn : bs.length ≤ maxLen) :
    Kd.R Kd.bool 4 W base (fun k => base ≤ k) (.slice (some ⟨g, 0, none⟩) bs.length bs.length) bs := by
  have hsz : (Kd.bool).sz = 1 := rfl
  refine ⟨fun k hk => ?_, bs.map Value.bool, ⟨by simp [hsz], .inr ⟨g, bs.length, _, by simp, hb, h, by simp [hsz, bCells], hn, by simp [hsz, bCells], by simp [hsz, bCells, List.take_of_length_le]⟩⟩, by simp [hsz], fun j p hj => ?_⟩
  · have : g = k := by simpa [Value.ownBlock] using hk
    show base ≤ k
    omega
  · obtain ⟨hjl, hjp⟩ := List.getElem?_eq_some_iff.1 hj
    rw [hsz, Nat.mul_one]
    show _ = [Value.bool p]
    rw [List.drop_eq_getElem_cons (by rw [List.length_map]; exact hjl), List.take_succ_cons, List.take_zero, List.getElem_map, hjp]
structure AC (w : World) (x y z : Value) (s : Int) (v : Value) (bs : List Bool) (W : World) : Prop where
  hb : Below w.heap.size w W
  ba : W.heap[w.heap.size]? = some (.cells #[x, y, z] 25 (0, 0))
  bt : W.heap[w.heap.size + 1]? = some (.cells #[.int .i64 s, v] 28 (0, 0))
  bo : W.heap[w.heap.size + 2]? = some (.cells (bCells bs) 4 (0, 0))
section
variable {w W W1 : World} {x y z v : Value} {s : Int} {bs : List Bool}
theorem AC.below (h : AC w x y z s v bs W) (hb : Below W.heap.size W W1) : AC w x y z s v bs W1 :=
  ⟨below_then h.hb h.hb.size hb, blk_below h.ba hb, blk_below h.bt hb, blk_below h.bo hb⟩
theorem AC.start (w : World) (x y z v : Value) (s : Int) (n : Nat) : AC w x y z s v (bsF n fun _ => false) (((w.alloc (.cells #[x, y, z] 25)).alloc (.cells #[.int .i64 s, v] 28)).alloc (.cells (madeCells #[.bool false] n) 4)) := by
  rw [bCells_made]
  refine ⟨below_alloc (below_alloc (below_alloc (Below.refl w.heap.size w) _) _) _, blk_alloc (blk_alloc (blk_new w _) _) _, blk_alloc (blk_at2 w _ _) _, ?_⟩
  have h := blk_new ((w.alloc (.cells #[x, y, z] 25)).alloc (.cells #[.int .i64 s, v] 28)) (.cells (bCells (bsF n fun _ => false)) 4)
  rwa [show ((w.alloc (.cells #[x, y, z] 25)).alloc (.cells #[.int .i64 s, v] 28)).heap.size = w.heap.size + 2 by unfold World.alloc; simp] at h
theorem AC.cell (h : AC w x y z s v bs W) {i : Nat} {b : Bool} (hb : bs[i]? = some b) : W.cell? ⟨w.heap.size + 2, i, none⟩ = some (.bool b) := (blk_cell h.bo i).trans (bCells_at hb)
theorem AC.put (h : AC w x y z s v bs W) (i : Nat) (b : Bool) : AC w x y z s v (bs.set i b) (W.setCell ⟨w.heap.size + 2, i, none⟩ (.bool b)) := by
  refine ⟨h.hb.setCell (p := ⟨w.heap.size + 2, i, none⟩) (by show w.heap.size ≤ w.heap.size + 2; omega) _, blk_far h.ba (by show w.heap.size ≠ w.heap.size + 2; omega) _, blk_far h.bt (by show w.heap.size + 1 ≠ w.heap.size + 2; omega) _, ?_⟩
  have h1 := blk_set h.bo i (.bool b)
  rw [← bCells_set]
  exact h1
end
end Go.Proofs.YtbmcigakiibncaaGreatDoor.H
namespace Go.Proofs.YtbmcigakiibncaaGreatDoor.H
open Go.RowKit Go.Proofs.YtbmcigakiibncaaGreatDoorW.PrintWords Go.Proofs.YtbmcigakiibncaaGreatDoorW.PrintLast Go.Proofs.YtbmcigakiibncaaGreatDoorW.PrintMore
open Go.Proofs.YtbmcigakiibncaaGreatDoor.Q (S28 k28 z28 rd_T28 at_T28)
set_option linter.unusedVariables false
set_option linter.unusedSimpArgs false
abbrev kB : Kd (List Bool) := Kd.slice 4 Kd.bool
theorem info61' : (Tryz.prog.info? 61).map (fun i => (i.zero, i.size, i.bytes)) = some (some (.slice none 0 0), 1, 24) := by kernel_rfl
theorem info4' : (Tryz.prog.info? 4).map (fun i => (i.zero, i.size, i.bytes)) = some (some (.bool false), 1, 1) := by kernel_rfl
theorem at_bool {w : World} {A : Option Addr} {n : Nat} {xs : List Bool} (h : Kd.C Kd.bool w A n xs) (i : Nat) (hi : i < n) :
    ∃ ad, A = some ad ∧ w.cell? (ad.add i) = some (.bool (xs.getD i false)) := by
  obtain ⟨ad, c, e, _, hK, hc0⟩ := Kd.C_get h false (i : Int) (by omega) (by omega)
  have hc : ∀ j u, c[j]? = some u → w.cell? (ad.add (i * 1 + j)) = some u := fun j u hj => by have := hc0 j u hj; rwa [Int.toNat_natCast] at this
  obtain rfl := hK
  exact ⟨ad, e, by have hq := hc 0 _ rfl; rwa [Nat.mul_one, Nat.add_zero] at hq⟩
structure AK (w : World) (x y z : Value) (s : Int) (v vk : Value) (ks : List (List Bool)) (bs : List Bool) (W : World) : Prop where
  ac : AC w x y z s v bs W
  rk : kB.R 61 W w.heap.size (fun k => w.heap.size + 3 ≤ k) vk ks
section
variable {w W W1 : World} {x y z v vk : Value} {s : Int} {bs : List Bool} {ks : List (List Bool)}
theorem AC.low (h : AC w x y z s v bs W) : w.heap.size + 3 ≤ W.heap.size := by have := blk_lt h.bo; omega
theorem AC.grown (h : AC w x y z s v bs W) {row : Option Nat} (hb : Below w.heap.size w W1) (hg : W.grownBy W1 row) (hne : ∀ k, row = some k → w.heap.size + 3 ≤ k) : AC w x y z s v bs W1 :=
  ⟨hb, blk_grown h.ba hg (fun e => by have := hne _ e.symm; omega), blk_grown h.bt hg (fun e => by have := hne _ e.symm; omega), blk_grown h.bo hg (fun e => by have := hne _ e.symm; omega)⟩
theorem AK.below (h : AK w x y z s v vk ks bs W) (hb : Below W.heap.size W W1) : AK w x y z s v vk ks bs W1 := ⟨h.ac.below hb, Kd.R_below h.rk hb⟩
theorem AK.put (h : AK w x y z s v vk ks bs W) (i : Nat) (b : Bool) : AK w x y z s v vk ks (bs.set i b) (W.setCell ⟨w.heap.size + 2, i, none⟩ (.bool b)) :=
  ⟨h.ac.put i b, R_same h.rk fun k hk _ => Below.heap_setCell _ _ _ _ (by show k ≠ w.heap.size + 2; have h1 : w.heap.size + 3 ≤ k := hk; omega)⟩
end
def AccE (M : Mv) (z : Bool) (t : S28) (w : World) (E : Ending) (w' : World) : Prop :=
  ∃ v, E = .returned v ∧ Kd.R Kd.bool 4 w' w.heap.size (fun k => w.heap.size ≤ k) v (bsF M.length (accG M z t)) ∧ Below w.heap.size w w'
def satA (M : Mv) (z : Bool) (l : List S28) (al : List Nd) : Bool := al.all fun x => ((accGL M z l).getD x.f0.toNat (fun _ => false)) x.f1.toNat
theorem accG_sat {M : Mv} {z : Bool} {f : Nat} {l : List S28} (q : Nat) : accG M z ⟨(f : Int), l⟩ q = (altsAt M q f).any (satA M z l) := by
  rw [accG, if_neg (by omega), Int.toNat_natCast]; rfl
def bsQ (n : Nat) (acc : Nat → Bool) (q : Nat) (b : Bool) : List Bool := bsF n fun j => if j < q then acc j else if j = q then b else false
theorem bsQ_set (n : Nat) (acc : Nat → Bool) (q : Nat) (b b' : Bool) : (bsQ n acc q b).set q b' = bsQ n acc q b' := by
  unfold bsQ
  rw [bsF_set]
  refine bsF_congr fun i _ => ?_
  by_cases e : i = q
  · subst e; simp
  · rw [if_neg e]; simp [e]
theorem bsQ_next (n : Nat) (acc : Nat → Bool) (q : Nat) : bsQ n acc q (acc q) = bsQ n acc (q + 1) false := by
  unfold bsQ
  refine bsF_congr fun i _ => ?_
  by_cases h : i < q
  · simp [h, show i < q + 1 by omega]
  · by_cases e : i = q
    · subst e; simp
    · simp [h, e, show ¬ i < q + 1 by omega]
theorem bsQ_zero (n : Nat) (acc : Nat → Bool) : bsF n (fun _ => false) = bsQ n acc 0 false := by
  unfold bsQ
  exact bsF_congr fun i _ => by simp
theorem bsQ_end (n : Nat) (acc : Nat → Bool) : bsQ n acc n false = bsF n acc := by
  unfold bsQ
  exact bsF_congr fun i hi => by simp [hi]
theorem bsQ_at {n q : Nat} {acc : Nat → Bool} {b : Bool} (h : q < n) : (bsQ n acc q b)[q]? = some b := by
  unfold bsQ
  rw [bsF_at h]; simp
theorem any_take {α : Type} {p : α → Bool} {l : List α} {i : Nat} (d : α) (h : i < l.length) : (l.take (i + 1)).any p = ((l.take i).any p || p (l.getD i d)) := by
  rw [List.take_add_one, List.any_append, List.getD_eq_getElem?_getD, List.getElem?_eq_getElem h]; simp
theorem all_take {α : Type} {p : α → Bool} {l : List α} {i : Nat} (d : α) (h : i < l.length) : (l.take (i + 1)).all p = ((l.take i).all p && p (l.getD i d)) := by
  rw [List.take_add_one, List.all_append, List.getD_eq_getElem?_getD, List.getElem?_eq_getElem h]; simp
set_option maxHeartbeats 16000000 in
set_option maxRecDepth 100000 in
theorem racc_calls (mode : Int) (z : Bool) (hz : z = decide (mode = 0)) (rk : List Int) (M : Mv) (hMv : MvOk rk M) (hAu : ∀ row ∈ M, ∀ a ∈ row, a.length ≤ 12 ∧ ∀ l ∈ a, l.length ≤ 24) (st : Int) (A1 : Option Addr) (n1 c1 : Nat) (A2 : Option Addr) (c2 : Nat) (w0 : World) (hM : Kd.C kA3 w0 A2 M.length M) (N : Nat) :
    ∀ t : S28, nodes t ≤ N → N ≤ 20000 → overB rk t = true → ∀ (A : Option Addr) (c : Nat) (w : World), Below w0.heap.size w0 w → Kd.C k28 w0 A t.f1.length t.f1 → t.f1.length ≤ c →
    Calls Tryz.prog 44 #[.agg #[.slice A1 n1 c1, .int .i64 st, .slice A2 M.length c2], .int .i64 mode, .agg #[.int .i64 t.f0, .slice A t.f1.length c]] w (AccE M z t w) := by
  subst hz
  induction N with
  | zero => intro t h; have := nodes_pos t; omega
  | succ N ih =>
    intro t hN hN2 hov A c w hB0 hC hc
    obtain ⟨s, l⟩ := t
    rw [nodes] at hN
    have hll := lens_le (l := l)
    rw [overB, Bool.or_eq_true, Bool.and_eq_true, Bool.and_eq_true, Bool.and_eq_true, Bool.and_eq_true, decide_eq_true_eq, decide_eq_true_eq, decide_eq_true_eq, decide_eq_true_eq, decide_eq_true_eq] at hov
    have HOV := Aside0.mk hov
    have IH := Aside0.mk ih
    have HMv := Aside0.mk hMv
    have HAu := Aside0.mk hAu
    have HM := Aside0.mk hM
    have HC := Aside0.mk hC
    have HB0 := Aside0.mk hB0
    have HN6 := Aside0.mk hMv.1
    have HD := Aside0.mk (show nodesL l + 1 ≤ N + 1 ∧ N + 1 ≤ 20000 ∧ l.length ≤ nodesL l from ⟨hN, hN2, hll⟩)
    have HS := Aside0.mk (AC.start w (.slice A1 n1 c1) (.int .i64 st) (.slice A2 M.length c2) (.slice A l.length c) s M.length)
    have hmk : ∀ W : World, (Instr.makeSlice 61 (.int .i64 (M.length : Int)) (.int .i64 (M.length : Int))).run Tryz.prog W = .ok (.slice (some ⟨W.heap.size, 0, none⟩) M.length M.length) (W.alloc (.cells (madeCells #[.bool false] M.length) 4)) := fun W => run_make_row' 61 4 (.bool false) 1 Tryz.underlying61 info4' rfl .i64 .i64 M.length (by have := hMv.1; omega) (by have := hMv.1; omega) W
    have k2 : ((w.alloc (.cells #[.slice A1 n1 c1, .int .i64 st, .slice A2 M.length c2] 25)).alloc (.cells #[.int .i64 s, .slice A l.length c] 28)).cell? ⟨w.heap.size, 2, none⟩ = some (.slice A2 M.length c2) := (blk_cell (blk_alloc (blk_new w (.cells #[.slice A1 n1 c1, .int .i64 st, .slice A2 M.length c2] 25)) (.cells #[.int .i64 s, .slice A l.length c] 28)) 2).trans rfl
    clear ih hMv hAu hM hC hB0 hN hN2 hll hov
    go_enter Tryz.func44, Tryz.ntmps44
    go_upto_region 2 with (fail)
    clear k2 hmk
    generalize ((w.alloc (.cells #[.slice A1 n1 c1, .int .i64 st, .slice A2 M.length c2] 25)).alloc (.cells #[.int .i64 s, .slice A l.length c] 28)).alloc (.cells (madeCells #[.bool false] M.length) 4) = W1 at *
    have k0 : W1.cell? ⟨w.heap.size + 1, 0, none⟩ = some (.int .i64 s) := (blk_cell (HS.out).bt 0).trans rfl
    by_cases hs : s = -1
    · subst hs
      have HZ := Aside0.mk (show ∀ i, accG M (decide (mode = 0)) ⟨-1, l⟩ i = decide (mode = 0) from fun i => by rw [accG, if_pos rfl])
      go_wp2
      clear k0
      go_loopg [27] M.length (fun gg v27 wi => ∃ j : Nat, j ≤ M.length ∧ M.length - j ≤ gg ∧ v27 = .int .i64 j ∧ Aside0 (AC w (.slice A1 n1 c1) (.int .i64 st) (.slice A2 M.length c2) (-1) (.slice A l.length c) (bsQ M.length (fun _ => decide (mode = 0)) j false) wi))
      case atStart => exact ⟨0, Nat.zero_le _, Nat.le_refl _, rfl, ⟨by rw [← bsQ_zero]; exact HS.out⟩⟩
      case round =>
        clear HS
        obtain ⟨j, hj, hgg, rfl, HS⟩ := hrel
        by_cases hlt : j < M.length
        · have hltz : (j : Int) < (M.length : Int) := by omega
          have HLT := Aside0.mk hlt
          have HKZ := Aside0.mk (show wrap64 ((j : Int) + 1) = ((j + 1 : Nat) : Int) by rw [wr_id (by omega) (by have := HN6.out; omega)]; rfl)
          have hcell := (HS.out).cell (bsQ_at (acc := fun _ => decide (mode = 0)) (b := false) hlt)
          have hfz := blk_frozen (HS.out).bo j
          have HP := Aside0.mk (show AC w (.slice A1 n1 c1) (.int .i64 st) (.slice A2 M.length c2) (-1) (.slice A l.length c) (bsQ M.length (fun _ => decide (mode = 0)) (j + 1) false) (wr.setCell ⟨w.heap.size + 2, j, none⟩ (.bool (decide (mode = 0)))) from by
            rw [← bsQ_next, ← bsQ_set M.length (fun _ => decide (mode = 0)) j false (decide (mode = 0))]; exact (HS.out).put j _)
          clear hlt hj HS
          go_wp2
          go_roundg (M.length - (j + 1))
          case measure => have := HLT.out; omega
          case rel => exact ⟨j + 1, HLT.out, Nat.le_refl _, by rw [HKZ.out], HP⟩
        · obtain rfl : j = M.length := by omega
          have HR := Aside0.mk (R_bools (base := w.heap.size) (HS.out).bo (by omega) (by unfold bsQ; rw [bsF_len]; unfold maxLen; have := HN6.out; omega))
          rw [bsQ_end, bsF_len] at HR
          clear hj hgg hlt
          go_wp2
          go_ret
          exact ⟨_, rfl, by rw [show accG M (decide (mode = 0)) ⟨-1, l⟩ = fun _ => decide (mode = 0) from funext HZ.out]; exact HR.out, (HS.out).hb⟩
    · have HO := Aside0.mk ((HOV.out).resolve_left (fun hh => hs hh.1))
      obtain ⟨f, rfl⟩ : ∃ f : Nat, s = (f : Int) := ⟨s.toNat, by have := (HO.out).1.1.1; omega⟩
      have hsf : ((f : Int) == -1) = false := beq_eq_false_iff_ne.2 hs
      have k1 : W1.cell? ⟨w.heap.size + 1, 1, none⟩ = some (.slice A l.length c) := (blk_cell (HS.out).bt 1).trans rfl
      clear HOV hs
      go_wp2
      clear k0 k1
      have HS1 := Aside0.mk (AK.mk HS.out (Kd.R_nil kB 61 W1 w.heap.size (fun k => w.heap.size + 3 ≤ k)))
      clear HS
      go_loopg [40, 9] l.length (fun gg v40 v9 wi => ∃ (j : Nat) (vk : Value), j ≤ l.length ∧ l.length - j ≤ gg ∧ v40 = .int .i64 j ∧ v9 = vk ∧ Aside0 (AK w (.slice A1 n1 c1) (.int .i64 st) (.slice A2 M.length c2) (f : Int) (.slice A l.length c) vk ((l.take j).map fun u => bsF M.length (accG M (decide (mode = 0)) u)) (bsF M.length fun _ => false) wi))
      case atStart => exact ⟨0, _, Nat.zero_le _, Nat.le_refl _, rfl, rfl, HS1⟩
      case round =>
        clear HS1
        obtain ⟨j, vk, hj, hgg, rfl, rfl, HS⟩ := hrel
        by_cases hlt : j < l.length
        · have hltz : (j : Int) < (l.length : Int) := by omega
          have HLT := Aside0.mk hlt
          have HKZ := Aside0.mk (show wrap64 ((j : Int) + 1) = ((j + 1 : Nat) : Int) by rw [wr_id (by omega) (by have := HD.out; omega)]; rfl)
          have HBr := Aside0.mk (below_then HB0.out (HB0.out).size (HS.out).ac.hb)
          obtain ⟨ad, A3, c3, e, hx0, hx1, hl1, hC1⟩ := at_T28 HC.out (j : Int) (by omega) hltz
          subst e
          rw [rdT_at hlt] at hx0 hx1 hl1 hC1
          rw [Int.toNat_natCast] at hx0 hx1
          replace hx0 := pw_cell_below HBr.out hx0
          replace hx1 := pw_cell_below HBr.out hx1
          have HJ := Aside0.mk (show nodes l[j] ≤ nodesL l ∧ overB rk l[j] = true from ⟨nodes_mem (List.getElem_mem hlt), overL_mem (HO.out).2 (List.getElem_mem hlt)⟩)
          have HTK := Aside0.mk (show (l.take (j + 1)).map (fun u => bsF M.length (accG M (decide (mode = 0)) u)) = (l.take j).map (fun u => bsF M.length (accG M (decide (mode = 0)) u)) ++ [bsF M.length (accG M (decide (mode = 0)) l[j])] by
            rw [List.take_add_one, List.map_append, List.getElem?_eq_getElem hlt]; rfl)
          have HLK := Aside0.mk (show ((l.take j).map fun u => bsF M.length (accG M (decide (mode = 0)) u)).length ≤ 20000 by rw [List.length_map, List.length_take]; have := HD.out; omega)
          generalize l[j] = u at *
          have HC1 := Aside0.mk hC1
          have HL1 := Aside0.mk hl1
          clear hC1 hl1 hlt hj
          go_upto_region 13 with (fail)
          have ha := below_alloc (Below.refl wr.heap.size wr) (.cells #[.int .i64 u.f0, .slice A3 u.f1.length c3] 28)
          have HBr5 := Aside0.mk (below_then HBr.out (HBr.out).size ha)
          have HS5 := Aside0.mk ((HS.out).below ha)
          have HX5 := Aside0.mk (blk_new wr (.cells #[.int .i64 u.f0, .slice A3 u.f1.length c3] 28))
          clear ha HBr HS hx0 hx1
          generalize (wr.alloc (.cells #[.int .i64 u.f0, .slice A3 u.f1.length c3] 28)) = w5 at *
          generalize wr.heap.size = b9 at *
          have hk0 : w5.cell? ⟨w.heap.size, 0, none⟩ = some (.slice A1 n1 c1) := (blk_cell (HS5.out).ac.ba 0).trans rfl
          have hk1 : w5.cell? ⟨w.heap.size, 1, none⟩ = some (.int .i64 st) := (blk_cell (HS5.out).ac.ba 1).trans rfl
          have hk2 : w5.cell? ⟨w.heap.size, 2, none⟩ = some (.slice A2 M.length c2) := (blk_cell (HS5.out).ac.ba 2).trans rfl
          have hb0 : w5.cell? ⟨b9, 0, none⟩ = some (.int .i64 u.f0) := (blk_cell HX5.out 0).trans rfl
          have hb1 : w5.cell? ⟨b9, 1, none⟩ = some (.slice A3 u.f1.length c3) := (blk_cell HX5.out 1).trans rfl
          go_wp2_with fail
          refine (IH.out u (by have := HD.out; have := HJ.out; omega) (by have := HD.out; omega) (HJ.out).2 A3 c3 w5 HBr5.out HC1.out HL1.out).mono ?_
          rintro E w6 ⟨v6, rfl, hR, hb⟩
          have HS6 := Aside0.mk ((HS5.out).below hb)
          have HLO := Aside0.mk ((HS5.out).ac.low)
          have HOWN := Aside0.mk (show ∀ k, u9.ownBlock = some k → k < w5.heap.size from fun k hk => (ownBlock_typed (HS5.out).rk hk).2)
          have HR6 := Aside0.mk (show Kd.R Kd.bool 4 w6 w.heap.size (fun k => w5.heap.size ≤ k) v6 (bsF M.length (accG M (decide (mode = 0)) u)) from Kd.R_lower hR (HS5.out).ac.hb.size)
          clear hb hR HS5 HX5 HBr5 hk0 hk1 hk2 hb0 hb1
          obtain ⟨A6, c6, e6⟩ := Kd.R_slice HR6.out
          subst e6
          go_wp2_with ((with_reducible refine gate_builtin (b := .append) (xs := #[.tmp 44, .tmp 49]) rfl ?_); at_builtin; refine Kd.R_append kB (w0 := w) w.heap.size rfl (.tmp 44) (.tmp 49) 119 61 (.slice none 0 0) 24 rfl Tryz.underlying119 info61' rfl (show 0 < 1 by decide) (by decide) u9 ((l.take j).map fun u => bsF M.length (accG M (decide (mode = 0)) u)) (bsF M.length (accG M (decide (mode = 0)) u)) [.slice A6 (bsF M.length (accG M (decide (mode = 0)) u)).length c6] (fun k => w.heap.size + 3 ≤ k) (fun k => w5.heap.size ≤ k) rfl rfl ⟨_, rfl, HR6.out⟩ (fun k hk => ⟨by have h1 := HLO.out; have h3 : w5.heap.size ≤ k := hk; show w.heap.size + 3 ≤ k; omega, fun e => by have h1 := HOWN.out k e.symm; have h3 : w5.heap.size ≤ k := hk; omega⟩) (fun k hk => by have h1 := (HS6.out).ac.low; have h3 : w6.heap.size ≤ k := hk; show w.heap.size + 3 ≤ k; omega) (HS6.out).rk (HS6.out).ac.hb (HS6.out).ac.hb.size (by have := HLK.out; omega) ?_; intro v7 w7 ho7 hb7 hg7 hat7; have HS7 := Aside0.mk (AK.mk ((HS6.out).ac.grown hb7 hg7 (fun k hk => (HS6.out).rk.1 k hk)) ho7); rw [← HTK.out] at HS7; clear ho7 hb7 hg7 hat7)
          go_roundg (l.length - (j + 1))
          case measure => have := HLT.out; omega
          case rel => exact ⟨j + 1, _, HLT.out, Nat.le_refl _, by rw [HKZ.out], rfl, HS7⟩
        · obtain rfl : j = l.length := by omega
          rw [List.take_length] at HS
          clear hj hgg hlt
          obtain ⟨Ak, ck, ek⟩ := Kd.R_slice (HS.out).rk
          rw [List.length_map] at ek
          subst ek
          have HS8 := Aside0.mk (show AK w (.slice A1 n1 c1) (.int .i64 st) (.slice A2 M.length c2) (f : Int) (.slice A l.length c) (.slice Ak l.length ck) (l.map fun u => bsF M.length (accG M (decide (mode = 0)) u)) (bsQ M.length (accG M (decide (mode = 0)) ⟨(f : Int), l⟩) 0 false) wr from by rw [← bsQ_zero]; exact HS.out)
          clear HS
          go_wp2
          go_loopg [54] M.length (fun gg v54 wi => ∃ q : Nat, q ≤ M.length ∧ M.length - q ≤ gg ∧ v54 = .int .i64 q ∧ Aside0 (AK w (.slice A1 n1 c1) (.int .i64 st) (.slice A2 M.length c2) (f : Int) (.slice A l.length c) (.slice Ak l.length ck) (l.map fun u => bsF M.length (accG M (decide (mode = 0)) u)) (bsQ M.length (accG M (decide (mode = 0)) ⟨(f : Int), l⟩) q false) wi))
          case atStart => exact ⟨0, Nat.zero_le _, Nat.le_refl _, rfl, HS8⟩
          case round =>
            clear HS8
            obtain ⟨q, hq, hgg, rfl, HS⟩ := hrel
            by_cases hlt : q < M.length
            · have hltz : (q : Int) < (M.length : Int) := by omega
              have HLT := Aside0.mk hlt
              have HKQ := Aside0.mk (show wrap64 ((q : Int) + 1) = ((q + 1 : Nat) : Int) by rw [wr_id (by omega) (by have := HN6.out; omega)]; rfl)
              have HBr := Aside0.mk (below_then HB0.out (HB0.out).size (HS.out).ac.hb)
              have hfr : f < rk.length := by have := (HO.out).1.1.2; omega
              obtain ⟨ad2, A3, c3, e, hk, hl3, hC3⟩ := at_sl HM.out q hlt
              subst e
              have hrl : (M.getD q []).length = rk.length := (HMv.out).2.1 q hlt
              obtain ⟨ad3, A4, c4, e, hk4, hl4, hC4⟩ := at_sl hC3 f (by omega)
              subst e
              have hfz : (f : Int) < ((M.getD q []).length : Int) := by omega
              replace hk := pw_cell_below HBr.out hk
              replace hk4 := pw_cell_below HBr.out hk4
              have HC4 := Aside0.mk hC4
              have HNO := Aside0.mk ((HMv.out).2.2 q f hlt hfr)
              have HAL := Aside0.mk ((HAu.out) _ (getD_memD [] hlt) _ (getD_memD [] (show f < (M.getD q []).length by omega)))
              have HACC := Aside0.mk (accG_sat (M := M) (z := decide (mode = 0)) (f := f) (l := l) q)
              have kq2 : wr.cell? ⟨w.heap.size, 2, none⟩ = some (.slice (some ad2) M.length c2) := (blk_cell (HS.out).ac.ba 2).trans rfl
              have kq0 : wr.cell? ⟨w.heap.size + 1, 0, none⟩ = some (.int .i64 (f : Int)) := (blk_cell (HS.out).ac.bt 0).trans rfl
              unfold altsAt at HNO HACC
              generalize M.getD q [] = row at *
              generalize row.getD f [] = alts at *
              clear hC4 hC3 hl3 hl4 hrl hlt hq hfr
              go_upto_region 18 with (fail)
              go_quiet (fail)
              go_wp2
              clear hk hk4 kq2 kq0 hfz
              go_loopg [67] alts.length (fun gg v67 wi => ∃ i : Nat, i ≤ alts.length ∧ alts.length - i ≤ gg ∧ v67 = .int .i64 i ∧ Aside0 (AK w (.slice A1 n1 c1) (.int .i64 st) (.slice (some ad2) M.length c2) (f : Int) (.slice A l.length c) (.slice Ak l.length ck) (l.map fun u => bsF M.length (accG M (decide (mode = 0)) u)) (bsQ M.length (accG M (decide (mode = 0)) ⟨(f : Int), l⟩) q ((alts.take i).any (satA M (decide (mode = 0)) l))) wi))
              case atStart => exact ⟨0, Nat.zero_le _, Nat.le_refl _, rfl, ⟨by rw [List.take_zero]; exact (HS.out).below (by first | exact Below.refl _ _ | (apply pw_below_drewN; exact Below.refl _ _))⟩⟩
              case round =>
                clear HS HBr
                obtain ⟨i, hi, hgg, rfl, HS⟩ := hrel
                by_cases hlt : i < alts.length
                · have hltz' : (i : Int) < (alts.length : Int) := by omega
                  have HLI := Aside0.mk hlt
                  have HKI := Aside0.mk (show wrap64 ((i : Int) + 1) = ((i + 1 : Nat) : Int) by rw [wr_id (by omega) (by have := (HAL.out).1; omega)]; rfl)
                  have HBr := Aside0.mk (below_then HB0.out (HB0.out).size (HS.out).ac.hb)
                  obtain ⟨ad5, A5, c5, e, hk5, hl5, hC5⟩ := at_sl HC4.out i hlt
                  subst e
                  replace hk5 := pw_cell_below HBr.out hk5
                  have HC5 := Aside0.mk hC5
                  have HNX := Aside0.mk (HNO.out _ (getD_memD [] hlt))
                  have HL5 := Aside0.mk ((HAL.out).2 _ (getD_memD [] hlt))
                  have HAT := Aside0.mk (any_take (p := satA M (decide (mode = 0)) l) [] hlt)
                  clear hC5 hl5 hlt hi HBr
                  generalize alts.getD i [] = al at *
                  generalize (alts.take i).any (satA M (decide (mode = 0)) l) = bq at *
                  go_wp2
                  clear hk5
                  go_loopg [73, 15] al.length (fun gg v73 v15 wi => ∃ j : Nat, j ≤ al.length ∧ al.length - j ≤ gg ∧ v73 = .int .i64 j ∧ v15 = .bool ((al.take j).all fun x => ((accGL M (decide (mode = 0)) l).getD x.f0.toNat (fun _ => false)) x.f1.toNat) ∧ Aside0 (AK w (.slice A1 n1 c1) (.int .i64 st) (.slice (some ad2) M.length c2) (f : Int) (.slice A l.length c) (.slice Ak l.length ck) (l.map fun u => bsF M.length (accG M (decide (mode = 0)) u)) (bsQ M.length (accG M (decide (mode = 0)) ⟨(f : Int), l⟩) q bq) wi))
                  case atStart => exact ⟨0, Nat.zero_le _, Nat.le_refl _, rfl, by rw [List.take_zero]; rfl, HS⟩
                  case round =>
                    clear HS
                    obtain ⟨j, hj, hgg, rfl, rfl, HS⟩ := hrel
                    by_cases hlt : j < al.length
                    · have hltj : (j : Int) < (al.length : Int) := by omega
                      have HLJ := Aside0.mk hlt
                      have HKJ := Aside0.mk (show wrap64 ((j : Int) + 1) = ((j + 1 : Nat) : Int) by rw [wr_id (by omega) (by have := HL5.out; omega)]; rfl)
                      have HBr := Aside0.mk (below_then HB0.out (HB0.out).size (HS.out).ac.hb)
                      obtain ⟨ad6, e, hx0, hx1⟩ := at_need HC5.out j hlt
                      subst e
                      replace hx0 := pw_cell_below HBr.out hx0
                      replace hx1 := pw_cell_below HBr.out hx1
                      obtain ⟨kk, ss, hkk, hss, ex⟩ := HNX.out _ (getD_memD zN hlt)
                      have hkl : kk < l.length := by have := (HO.out).1.2; omega
                      have HAL2 := Aside0.mk (all_take (p := fun x : Nd => ((accGL M (decide (mode = 0)) l).getD x.f0.toNat (fun _ => false)) x.f1.toNat) zN hlt)
                      rw [ex] at hx0 hx1 HAL2
                      simp only [Int.toNat_natCast] at HAL2
                      generalize (al.take j).all (fun x : Nd => ((accGL M (decide (mode = 0)) l).getD x.f0.toNat (fun _ => false)) x.f1.toNat) = bj at *
                      have HPR := Aside0.mk (show ((l.map fun u => bsF M.length (accG M (decide (mode = 0)) u)).getD kk []).getD ss false = ((accGL M (decide (mode = 0)) l).getD kk (fun _ => false)) ss by
                        rw [accGL_map, List.getD_eq_getElem?_getD, List.getD_eq_getElem?_getD, List.getD_eq_getElem?_getD, List.getElem?_map, List.getElem?_map, List.getElem?_eq_getElem hkl]
                        simp only [Option.map_some, Option.getD_some]
                        rw [bsF_at hss]; rfl)
                      have HRLN := Aside0.mk (show ((l.map fun u => bsF M.length (accG M (decide (mode = 0)) u)).getD kk []).length = M.length by
                        rw [List.getD_eq_getElem?_getD, List.getElem?_map, List.getElem?_eq_getElem hkl]
                        simp only [Option.map_some, Option.getD_some]
                        exact bsF_len _ _)
                      generalize ((accGL M (decide (mode = 0)) l).getD kk (fun _ => false)) ss = px at *
                      clear hlt hj HBr
                      go_upto_region 25 with (fail)
                      have ha := below_alloc (Below.refl wr.heap.size wr) (.cells #[.int .i64 (kk : Int), .int .i64 (ss : Int)] 83)
                      have HS9 := Aside0.mk ((HS.out).below ha)
                      have kx0 : (wr.alloc (.cells #[.int .i64 (kk : Int), .int .i64 (ss : Int)] 83)).cell? ⟨wr.heap.size, 0, none⟩ = some (.int .i64 (kk : Int)) := (blk_cell (blk_new wr _) 0).trans rfl
                      have kx1 : (wr.alloc (.cells #[.int .i64 (kk : Int), .int .i64 (ss : Int)] 83)).cell? ⟨wr.heap.size, 1, none⟩ = some (.int .i64 (ss : Int)) := (blk_cell (blk_new wr _) 1).trans rfl
                      clear ha HS hx0 hx1
                      generalize (wr.alloc (.cells #[.int .i64 (kk : Int), .int .i64 (ss : Int)] 83)) = W8 at *
                      generalize wr.heap.size = b8 at *
                      cases bj with
                      | false =>
                        go_quiet (fail)
                        go_wp2
                        go_roundg (al.length - (j + 1))
                        case measure => have := HLJ.out; omega
                        case rel => exact ⟨j + 1, HLJ.out, Nat.le_refl _, by rw [HKJ.out], by rw [HAL2.out]; rfl, ⟨(HS9.out).below (by first | exact Below.refl _ _ | (apply pw_below_drewN; exact Below.refl _ _))⟩⟩
                      | true =>
                        have hrr := (Kd.R_reads' (HS9.out).rk).2.2
                        rw [List.length_map] at hrr
                        obtain ⟨ak, A7, c7, e, hk7, hl7, hC7⟩ := at_sl hrr kk hkl
                        subst e
                        rw [HRLN.out] at hk7 hl7 hC7
                        obtain ⟨a8, e, hk8⟩ := at_bool hC7 ss hss
                        subst e
                        rw [HPR.out] at hk8
                        have hkz : (kk : Int) < (l.length : Int) := by omega
                        have hsz : (ss : Int) < (M.length : Int) := by omega
                        clear hrr hC7 hl7
                        go_quiet (fail)
                        go_wp2
                        go_roundg (al.length - (j + 1))
                        case measure => have := HLJ.out; omega
                        case rel => exact ⟨j + 1, HLJ.out, Nat.le_refl _, by rw [HKJ.out], by rw [HAL2.out]; rfl, ⟨(HS9.out).below (by first | exact Below.refl _ _ | (apply pw_below_drewN; exact Below.refl _ _))⟩⟩
                    · obtain rfl : j = al.length := by omega
                      rw [List.take_length]
                      have HSA := Aside0.mk (show (al.all fun x => ((accGL M (decide (mode = 0)) l).getD x.f0.toNat (fun _ => false)) x.f1.toNat) = satA M (decide (mode = 0)) l al from rfl)
                      rw [HSA.out]
                      generalize satA M (decide (mode = 0)) l al = ba at *
                      have hcell := (HS.out).ac.cell (bsQ_at (acc := accG M (decide (mode = 0)) ⟨(f : Int), l⟩) (b := bq) HLT.out)
                      have hfzz := blk_frozen (HS.out).ac.bo q
                      have HP := Aside0.mk (fun b : Bool => (HS.out).put q b)
                      simp only [bsQ_set] at HP
                      clear HS hj hgg hlt
                      cases bq with
                      | false =>
                        have HPP := Aside0.mk (HP.out ba)
                        go_wp2
                        go_roundg (alts.length - (i + 1))
                        case measure => have := HLI.out; omega
                        case rel => exact ⟨i + 1, HLI.out, Nat.le_refl _, by rw [HKI.out], ⟨by rw [HAT.out]; exact HPP.out⟩⟩
                      | true =>
                        have HPP := Aside0.mk (HP.out true)
                        go_wp2
                        go_roundg (alts.length - (i + 1))
                        case measure => have := HLI.out; omega
                        case rel => exact ⟨i + 1, HLI.out, Nat.le_refl _, by rw [HKI.out], ⟨by rw [HAT.out]; exact HPP.out⟩⟩
                · obtain rfl : i = alts.length := by omega
                  rw [List.take_length, ← HACC.out, bsQ_next] at HS
                  clear hi hgg hlt
                  go_wp2
                  go_roundg (M.length - (q + 1))
                  case measure => have := HLT.out; omega
                  case rel => exact ⟨q + 1, HLT.out, Nat.le_refl _, by rw [HKQ.out], HS⟩
            · obtain rfl : q = M.length := by omega
              have HR := Aside0.mk (R_bools (base := w.heap.size) (HS.out).ac.bo (by omega) (by unfold bsQ; rw [bsF_len]; unfold maxLen; have := HN6.out; omega))
              rw [bsQ_end, bsF_len] at HR
              clear hq hgg hlt
              go_wp2
              go_ret
              exact ⟨_, rfl, HR.out, (HS.out).ac.hb⟩
end Go.Proofs.YtbmcigakiibncaaGreatDoor.H
namespace Go.Proofs.YtbmcigakiibncaaGreatDoor.H
open Go.RowKit Go.Proofs.YtbmcigakiibncaaGreatDoorW.PrintWords Go.Proofs.YtbmcigakiibncaaGreatDoorW.PrintLast Go.Proofs.YtbmcigakiibncaaGreatDoorW.PrintMore
open Go.Proofs.YtbmcigakiibncaaGreatDoor.Q (S28 k28 z28 rd_T28)
set_option linter.unusedVariables false
set_option linter.unusedSimpArgs false
theorem rover_ev (rk : List Int) (N : Nat) : ∀ t : S28, nodes t ≤ N → N ≤ 20000 → Ev (fun k => Q.virgationref06_over.f k rk t.f0 t.f1) (overB rk t) := by
  induction N with
  | zero => intro t h; have := nodes_pos t; omega
  | succ N ih =>
    intro t h hN
    obtain ⟨s, l⟩ := t
    rw [nodes] at h
    have hll := lens_le (l := l)
    have loop : ∀ d j : Nat, l.length - j = d → j ≤ l.length → Ev (fun k => Q.virgationref06_over.l0 k rk l (l.length : Int) (j : Int)) (overL rk (l.drop j)) := by
      intro d
      induction d with
      | zero =>
        intro j hd hj
        refine ev_end fun k => ?_
        simp only [Q.virgationref06_over.l0]
        rw [if_neg (by omega), List.drop_eq_nil_of_le (by omega), overL]
      | succ d ihd =>
        intro j hd hj
        have hlt : j < l.length := by omega
        rw [dropT hlt, overL]
        have e1 := ih l[j] (by have := nodes_mem (List.getElem_mem hlt); omega) (by omega)
        have e2 := ihd (j + 1) (by omega) (by omega)
        rw [show ((j + 1 : Nat) : Int) = wrap64 ((j : Int) + 1) from (wrap_succ (i := (j : Int)) (by omega) (by omega)).symm] at e2
        refine ev_next (Ev.bind (f := fun k t => if t = true then Q.virgationref06_over.l0 k rk l (l.length : Int) (wrap64 ((j : Int) + 1)) else some false) e1 ?_) fun k => ?_
        · cases overB rk l[j] with
          | true => simpa using e2
          | false => simpa using Ev.now false
        · simp only [Q.virgationref06_over.l0]
          rw [if_pos (by omega), if_pos (by omega), if_pos (by omega), rdT_at hlt]
    have hgo : Ev (fun k => Q.virgationref06_over.j0 k rk false s l) (overL rk l) := by
      have e := loop l.length 0 (by omega) (by omega)
      rw [List.drop_zero] at e
      exact ev_next e fun k => by simp [Q.virgationref06_over.j0]
    have hno : Ev (fun k => Q.virgationref06_over.j0 k rk true s l) false := ev_end fun k => by simp [Q.virgationref06_over.j0]
    rw [overB]
    by_cases h3 : s = -1
    · subst h3
      by_cases h4 : l.length = 0
      · obtain rfl : l = [] := List.length_eq_zero_iff.1 h4
        refine ev_next hgo fun k => ?_
        simp only [Q.virgationref06_over.f]
        rw [if_neg (by omega), if_neg (by omega), if_pos trivial, if_neg (by simp), if_neg (by omega)]
      · rw [decide_eq_false h4, decide_eq_false (by omega : ¬ (0 : Int) ≤ -1)]
        simp only [Bool.and_false, Bool.false_and, Bool.or_false]
        refine ev_next hno fun k => ?_
        simp only [Q.virgationref06_over.f]
        rw [if_neg (by omega), if_neg (by omega), if_pos trivial, if_pos (by omega)]
    by_cases h1 : s < -1
    · rw [decide_eq_false h3, decide_eq_false (by omega : ¬ 0 ≤ s)]
      simp only [Bool.and_false, Bool.false_and, Bool.or_false]
      refine ev_next hno fun k => ?_
      simp only [Q.virgationref06_over.f]
      rw [if_pos h1]
    by_cases h2 : s ≥ (rk.length : Int)
    · rw [decide_eq_false (by omega : ¬ s < (rk.length : Int)), decide_eq_false h3]
      simp only [Bool.false_and, Bool.and_false, Bool.or_false]
      refine ev_next hno fun k => ?_
      simp only [Q.virgationref06_over.f]
      rw [if_neg h1, if_pos h2]
    · rw [decide_eq_false h3, decide_eq_true (by omega : 0 ≤ s), decide_eq_true (by omega : s < (rk.length : Int))]
      by_cases h5 : (l.length : Int) = rd rk s
      · rw [decide_eq_true h5]
        simp only [Bool.false_and, Bool.false_or, Bool.true_and]
        refine ev_next hgo fun k => ?_
        simp only [Q.virgationref06_over.f]
        rw [if_neg h1, if_neg h2, if_neg h3, if_pos (by omega), if_pos (by omega), if_pos (by omega), h5, bne_self_eq_false]
      · rw [decide_eq_false h5]
        simp only [Bool.false_and, Bool.false_or, Bool.and_false]
        refine ev_next hno fun k => ?_
        simp only [Q.virgationref06_over.f]
        rw [if_neg h1, if_neg h2, if_neg h3, if_pos (by omega), if_pos (by omega), if_pos (by omega), show ((l.length : Int) != rd rk s) = true by simpa using h5]
theorem nodesL_drop {l : List S28} {j : Nat} (h : j < l.length) : nodesL (l.drop j) = nodes l[j] + nodesL (l.drop (j + 1)) := by rw [dropT h, nodesL]
mutual
def lensT : S28 → Prop
  | ⟨_, l⟩ => l.length ≤ 9223372036854775807 ∧ lensTL l
def lensTL : List S28 → Prop
  | [] => True
  | t :: r => lensT t ∧ lensTL r
end
theorem lensTL_iff {l : List S28} : lensTL l ↔ ∀ t ∈ l, lensT t := by
  induction l with
  | nil => simp [lensTL]
  | cons a r ih => rw [lensTL, ih]; simp
theorem lensT_of {w : World} (N : Nat) : ∀ (t : S28) (A : Option Addr), nodes t ≤ N → Kd.C k28 w A t.f1.length t.f1 → lensT t := by
  induction N with
  | zero => intro t A h; have := nodes_pos t; omega
  | succ N ih =>
    intro t A h hC
    obtain ⟨s, l⟩ := t
    rw [nodes] at h
    rw [lensT]
    refine ⟨hC.2.1, lensTL_iff.2 fun t ht => ?_⟩
    obtain ⟨i, hi, rfl⟩ := List.mem_iff_getElem.1 ht
    obtain ⟨ad, A1, c1, e, _, _, _, h1⟩ := Q.at_T28 hC (i : Int) (by omega) (by show (i : Int) < (l.length : Int); omega)
    rw [rdT_at hi] at h1
    exact ih _ A1 (by have := nodes_mem ht; omega) h1
theorem depth_mem {l : List S28} {t : S28} (h : t ∈ l) : depth t ≤ depthL l := by
  induction l with
  | nil => cases h
  | cons a r ihr =>
    rw [depthL]
    rcases List.mem_cons.1 h with rfl | ht
    · omega
    · have := ihr ht; omega
theorem rnodes_ev (D : Nat) : ∀ (t : S28) (most : Nat), depth t ≤ D → most ≤ 20000 → lensT t → Ev (fun k => Q.virgationref06_Nodes.f k t.f0 t.f1 (most : Int)) ((min (nodes t) (most + 1) : Nat) : Int) := by
  induction D with
  | zero => intro t most h; cases t; rw [depth] at h; omega
  | succ D ih =>
    intro t most h hm hlen
    obtain ⟨s, l⟩ := t
    rw [lensT] at hlen
    have hl : l.length ≤ 9223372036854775807 := hlen.1
    have loop : ∀ d j n : Nat, l.length - j = d → j ≤ l.length → n ≤ most + 1 → Ev (fun k => Q.virgationref06_Nodes.l0 k (most : Int) (n : Int) (j : Int) s l) ((min (n + nodesL (l.drop j)) (most + 1) : Nat) : Int) := by
      intro d
      induction d with
      | zero =>
        intro j n hd hj hn
        refine ev_end fun k => ?_
        simp only [Q.virgationref06_Nodes.l0]
        rw [if_neg (by omega), List.drop_eq_nil_of_le (by omega), nodesL]
        congr 1
        omega
      | succ d ihd =>
        intro j n hd hj hn
        have hlt : j < l.length := by omega
        by_cases hnm : n ≤ most
        · have hdep : depth l[j] ≤ D := by
            rw [depth] at h
            have := depth_mem (List.getElem_mem hlt)
            omega
          have e1 := ih l[j] (most - n) hdep (by omega) (lensTL_iff.1 hlen.2 _ (List.getElem_mem hlt))
          have hp := nodes_pos l[j]
          refine ev_next (f := fun k => (Q.virgationref06_Nodes.f k (l[j]).f0 (l[j]).f1 ((most - n : Nat) : Int)).bind fun t => Q.virgationref06_Nodes.l0 k (most : Int) (wrap64 ((n : Int) + t)) ((j + 1 : Nat) : Int) s l) (Ev.bind e1 ?_) fun k => ?_
          · have e2 := ihd (j + 1) (n + min (nodes l[j]) (most - n + 1)) (by omega) (by omega) (by omega)
            rw [wr_id (by omega) (by omega), show (n : Int) + ((min (nodes l[j]) (most - n + 1) : Nat) : Int) = ((n + min (nodes l[j]) (most - n + 1) : Nat) : Int) by omega, nodesL_drop hlt]
            rw [show min (n + (nodes l[j] + nodesL (l.drop (j + 1)))) (most + 1) = min (n + min (nodes l[j]) (most - n + 1) + nodesL (l.drop (j + 1))) (most + 1) by omega]
            exact e2
          · simp only [Q.virgationref06_Nodes.l0]
            rw [if_pos (by omega), if_pos (by omega), if_pos (by omega), rdT_at hlt, wrap_succ (by omega) (by omega), wr_id (x := (most : Int) - (n : Int)) (by omega) (by omega), show (most : Int) - (n : Int) = ((most - n : Nat) : Int) by omega]
            rfl
        · refine ev_end fun k => ?_
          simp only [Q.virgationref06_Nodes.l0]
          rw [if_pos (by omega), if_neg (by omega)]
          congr 1
          omega
    have e := loop l.length 0 1 (by omega) (by omega) (by omega)
    rw [List.drop_zero] at e
    rw [nodes, show nodesL l + 1 = 1 + nodesL l by omega]
    refine ev_next e fun k => ?_
    simp only [Q.virgationref06_Nodes.f]
    rfl
theorem depthL_drop {l : List S28} {j : Nat} (h : j < l.length) : depthL (l.drop j) = max (depth l[j]) (depthL (l.drop (j + 1))) := by rw [dropT h, depthL]
theorem rdepth_ev (N : Nat) : ∀ t : S28, nodes t ≤ N → N ≤ 20000 → Ev (fun k => Q.virgationref06_Depth.f k t.f0 t.f1) ((depth t : Nat) : Int) := by
  induction N with
  | zero => intro t h; have := nodes_pos t; omega
  | succ N ih =>
    intro t h hN
    obtain ⟨s, l⟩ := t
    rw [nodes] at h
    have hll := lens_le (l := l)
    have loop : ∀ d j m : Nat, l.length - j = d → j ≤ l.length → m ≤ 20000 → Ev (fun k => Q.virgationref06_Depth.l0 k (m : Int) l (l.length : Int) (j : Int)) ((max m (depthL (l.drop j)) + 1 : Nat) : Int) := by
      intro d
      induction d with
      | zero =>
        intro j m hd hj hm
        refine ev_end fun k => ?_
        simp only [Q.virgationref06_Depth.l0]
        rw [if_neg (by omega), List.drop_eq_nil_of_le (by omega), depthL, wrap_succ (by omega) (by omega)]
        congr 1
        omega
      | succ d ihd =>
        intro j m hd hj hm
        have hlt : j < l.length := by omega
        have hnj := nodes_mem (List.getElem_mem hlt)
        have e1 := ih l[j] (by omega) (by omega)
        have hdj := depth_le l[j]
        refine ev_next (f := fun k => (Q.virgationref06_Depth.f k (l[j]).f0 (l[j]).f1).bind fun t => Q.virgationref06_Depth.l0 k (mx (m : Int) t) l (l.length : Int) ((j + 1 : Nat) : Int)) (Ev.bind e1 ?_) fun k => ?_
        · have e2 := ihd (j + 1) (max m (depth l[j])) (by omega) (by omega) (by omega)
          rw [depthL_drop hlt, show max m (max (depth l[j]) (depthL (l.drop (j + 1)))) = max (max m (depth l[j])) (depthL (l.drop (j + 1))) by omega]
          rw [show mx (m : Int) ((depth l[j] : Nat) : Int) = ((max m (depth l[j]) : Nat) : Int) by unfold mx; split <;> omega]
          exact e2
        · simp only [Q.virgationref06_Depth.l0]
          rw [if_pos (by omega), if_pos (by omega), if_pos (by omega), rdT_at hlt, wrap_succ (by omega) (by omega)]
          rfl
    have e := loop l.length 0 0 (by omega) (by omega) (by omega)
    rw [List.drop_zero] at e
    rw [depth, show depthL l + 1 = max 0 (depthL l) + 1 by omega]
    refine ev_next e fun k => ?_
    simp only [Q.virgationref06_Depth.f]
    rfl
theorem ris_ev (rk : List Int) (t : S28) (hl : lensT t) : Ev (fun k => Q.virgationref06_Is.f k rk t.f0 t.f1) (treeOk rk t) := by
  unfold Q.virgationref06_Is.f treeOk
  refine Ev.bind (rnodes_ev _ t 20000 (Nat.le_refl _) (Nat.le_refl _) hl) ?_
  by_cases h1 : nodes t ≤ 20000
  · rw [decide_eq_true h1, Bool.true_and]
    simp only [if_pos (show ((min (nodes t) (20000 + 1) : Nat) : Int) ≤ 20000 by omega)]
    refine Ev.bind (rdepth_ev _ t (Nat.le_refl _) h1) ?_
    by_cases h2 : depth t ≤ 200
    · rw [decide_eq_true h2, Bool.true_and]
      simp only [if_pos (show ((depth t : Nat) : Int) ≤ 200 by omega)]
      exact Ev.bind (rover_ev rk _ t (Nat.le_refl _) h1) (ev_end fun k => rfl)
    · rw [decide_eq_false h2, Bool.false_and]
      simp only [if_neg (show ¬ ((depth t : Nat) : Int) ≤ 200 by omega)]
      exact ev_end fun k => rfl
  · rw [decide_eq_false h1, Bool.false_and, Bool.false_and]
    simp only [if_neg (show ¬ ((min (nodes t) (20000 + 1) : Nat) : Int) ≤ 20000 by omega)]
    exact ev_end fun k => rfl
theorem rtis_calls (rk : List Int) (t : S28) (A1 : Option Addr) (c1 : Nat) (A : Option Addr) (c : Nat) (w : World) (hr : Kd.C (Kd.int .i64) w A1 rk.length rk) (hc1 : rk.length ≤ c1) (hC : Kd.C k28 w A t.f1.length t.f1) (hc : t.f1.length ≤ c) :
    Calls Tryz.prog 29 #[.slice A1 rk.length c1, .agg #[.int .i64 t.f0, .slice A t.f1.length c]] w fun E w' => E = .returned (.bool (treeOk rk t)) ∧ Below w.heap.size w w' := by
  obtain ⟨k, hk⟩ := (ris_ev rk t (lensT_of _ t A (Nat.le_refl _) hC)).rounds
  exact Q.virgationref06_Is.calls k A1 c1 rk t.f0 A c t.f1 _ w hr hc1 hC hc hk
end Go.Proofs.YtbmcigakiibncaaGreatDoor.H
namespace Go.Proofs.YtbmcigakiibncaaGreatDoor.H
open Go.RowKit Go.Proofs.YtbmcigakiibncaaGreatDoorW.PrintWords Go.Proofs.YtbmcigakiibncaaGreatDoorW.PrintLast Go.Proofs.YtbmcigakiibncaaGreatDoorW.PrintMore
open Go.Proofs.YtbmcigakiibncaaGreatDoor.Q (S28 k28 z28 rd_T28 at_T28)
set_option linter.unusedVariables false
set_option linter.unusedSimpArgs false
def stL (n : Nat) (p : Nat → Bool) : List Int := ((List.range n).filter p).map fun (i : Nat) => (i : Int)
theorem stL_len (n : Nat) (p : Nat → Bool) : (stL n p).length ≤ n := by
  unfold stL
  rw [List.length_map]
  exact Nat.le_trans (List.length_filter_le _ _) (by simp)
theorem stL_succ (n : Nat) (p : Nat → Bool) : stL (n + 1) p = stL n p ++ (if p n then [(n : Int)] else []) := by
  unfold stL
  rw [List.range_succ, List.filter_append, List.map_append]
  cases h : p n <;> simp [h]
theorem bits_stL {n o : Nat} {p : Nat → Bool} (hn : n ≤ 6) (h : IsMask n p o) : bitsL o = stL n p := by
  unfold bitsL stL
  congr 1
  have h1 : (List.range 6).filter (fun i => o.testBit i) = (List.range 6).filter (fun i => decide (i < n) && p i) := List.filter_congr fun i hi => h.2 i (List.mem_range.1 hi)
  rw [h1]
  have key : ∀ m, n ≤ m → (List.range m).filter (fun i => decide (i < n) && p i) = (List.range n).filter p := by
    intro m
    induction m with
    | zero => intro hm; obtain rfl : n = 0 := by omega
              rfl
    | succ m ih =>
      intro hm
      rcases Nat.lt_or_ge m n with hlt | hge
      · obtain rfl : n = m + 1 := by omega
        exact List.filter_congr fun i hi => by rw [decide_eq_true (List.mem_range.1 hi), Bool.true_and]
      · rw [List.range_succ, List.filter_append, ih hge]
        simp [show ¬ m < n by omega]
  exact key 6 hn
def stV (rk : List Int) (st : Int) (M : Mv) (mode : Int) (t : S28) : List Int := if stErr rk st M mode t = 0 then stL M.length (accG M (decide (mode = 0)) t) else []
theorem stErr_zero {rk : List Int} {st : Int} {M : Mv} {mode : Int} {t : S28} (h : stErr rk st M mode t = 0) : auB rk st M = true ∧ treeOk rk t = true ∧ (mode = 0 ∨ mode = 1) := by
  unfold stErr at h
  cases h1 : auB rk st M with
  | false => rw [h1] at h; simp at h
  | true =>
    cases h2 : treeOk rk t with
    | false => rw [h1, h2] at h; simp at h
    | true =>
      rw [h1, h2, if_pos rfl, if_pos rfl] at h
      refine ⟨rfl, rfl, ?_⟩
      apply Classical.byContradiction
      intro hc
      rw [if_neg hc] at h
      cases h
def StE (rk : List Int) (st : Int) (M : Mv) (mode : Int) (t : S28) (w : World) (E : Ending) (w' : World) : Prop :=
  ∃ (A : Option Addr) (c : Nat), E = .returned (.tuple #[.slice A (stV rk st M mode t).length c, .int .i64 (stErr rk st M mode t)]) ∧ (stV rk st M mode t).length ≤ c ∧ Kd.C (Kd.int .i64) w' A (stV rk st M mode t).length (stV rk st M mode t) ∧ Below w.heap.size w w'
theorem StE.of {rk : List Int} {st : Int} {M : Mv} {mode : Int} {t : S28} {w w' : World} {l : List Int} {er : Int} {A : Option Addr} {c : Nat} (hv : stV rk st M mode t = l) (he : stErr rk st M mode t = er) (h : l.length ≤ c) (hC : Kd.C (Kd.int .i64) w' A l.length l) (hb : Below w.heap.size w w') :
    StE rk st M mode t w (.returned (.tuple #[.slice A l.length c, .int .i64 er])) w' := by
  subst hv he
  exact ⟨A, c, rfl, h, hC, hb⟩
theorem statesE_calls (rk : List Int) (M : Mv) (st mode : Int) (t : S28) (A1 : Option Addr) (c1 : Nat) (A2 : Option Addr) (c2 : Nat) (A : Option Addr) (c : Nat) (w : World)
    (hr : Kd.C (Kd.int .i64) w A1 rk.length rk) (hc1 : rk.length ≤ c1) (hM : Kd.C kA3 w A2 M.length M) (hC : Kd.C k28 w A t.f1.length t.f1) (hc : t.f1.length ≤ c) (hT : Tab w) :
    Calls Tryz.prog 13 #[.agg #[.slice A1 rk.length c1, .int .i64 st, .slice A2 M.length c2], .int .i64 mode, .agg #[.int .i64 t.f0, .slice A t.f1.length c]] w (StE rk st M mode t w) := by
  refine (statesG_calls rk M st mode t A1 c1 A2 c2 A c w hr hc1 hM hC hc hT).mono ?_
  rintro E w' ⟨ys, A', c', rfl, h1, h2, h3, h4, h5⟩
  have e : ys = stV rk st M mode t := by
    unfold stV
    by_cases h : stErr rk st M mode t = 0
    · rw [if_pos h]
      obtain ⟨o, hm, rfl⟩ := h4 h
      exact bits_stL (auOk (stErr_zero h).1).nM hm
    · rw [if_neg h]; exact h5 h
  subst e
  exact ⟨A', c', rfl, h1, h2, h3⟩
set_option maxHeartbeats 4000000 in
set_option maxRecDepth 100000 in
theorem rchecked_calls (rk : List Int) (M : Mv) (st mode : Int) (t : S28) (A1 : Option Addr) (c1 : Nat) (A2 : Option Addr) (c2 : Nat) (A : Option Addr) (c : Nat) (w : World)
    (hr : Kd.C (Kd.int .i64) w A1 rk.length rk) (hc1 : rk.length ≤ c1) (hM : Kd.C kA3 w A2 M.length M) (hc2 : M.length ≤ c2) (hC : Kd.C k28 w A t.f1.length t.f1) (hc : t.f1.length ≤ c) :
    Calls Tryz.prog 43 #[.agg #[.slice A1 rk.length c1, .int .i64 st, .slice A2 M.length c2], .int .i64 mode, .agg #[.int .i64 t.f0, .slice A t.f1.length c]] w fun E w' => E = .returned (.int .i64 (stErr rk st M mode t)) ∧ Below w.heap.size w w' := by
  have HIS := Aside0.mk fun W (hW : Below w.heap.size w W) => isA_calls rk M st A1 c1 A2 c2 W (Kd.C_below hr hW) hc1 (Kd.C_below hM hW) hc2
  have HTI := Aside0.mk fun W (hW : Below w.heap.size w W) => rtis_calls rk t A1 c1 A c W (Kd.C_below hr hW) hc1 (Kd.C_below hC hW) hc
  have HS := Aside0.mk (AT2.start w #[.slice A1 rk.length c1, .int .i64 st, .slice A2 M.length c2] #[.int .i64 t.f0, .slice A t.f1.length c])
  clear hr hc1 hM hC hc hc2
  go_enter Tryz.func43, Tryz.ntmps43
  go_upto_region 1 with (fail)
  generalize ((w.alloc (.cells #[.slice A1 rk.length c1, .int .i64 st, .slice A2 M.length c2] 25)).alloc (.cells #[.int .i64 t.f0, .slice A t.f1.length c] 28)) = W1 at *
  obtain ⟨hk0, hk1, hk2⟩ := box3_cells (HS.out).h1
  go_wp2_with fail
  refine (HIS.out _ (HS.out).hb).mono ?_
  rintro E w2 ⟨rfl, hb⟩
  have HS2 := Aside0.mk ((HS.out).below hb)
  clear hb hk0 hk1 hk2 HS HIS
  cases hau : auB rk st M with
  | false =>
    have HE := Aside0.mk (show stErr rk st M mode t = 10 by unfold stErr; rw [hau]; rfl)
    clear hau
    go_wp2
    go_ret
    exact ⟨by rw [HE.out]; rfl, (HS2.out).hb⟩
  | true =>
  have HAU := Aside0.mk hau
  clear hau
  obtain ⟨hk0, hk1, hk2⟩ := box3_cells (HS2.out).h1
  obtain ⟨hk3, hk4⟩ := box2_cells (HS2.out).h2
  go_wp2_with fail
  refine (HTI.out _ (HS2.out).hb).mono ?_
  rintro E w3 ⟨rfl, hb⟩
  have HS3 := Aside0.mk ((HS2.out).below hb)
  clear hb hk0 hk1 hk2 hk3 hk4 HS2 HTI
  cases hto : treeOk rk t with
  | false =>
    have HE := Aside0.mk (show stErr rk st M mode t = 9 by unfold stErr; rw [HAU.out, hto]; rfl)
    clear hto
    go_wp2
    go_ret
    exact ⟨by rw [HE.out]; rfl, (HS3.out).hb⟩
  | true =>
  have HTO := Aside0.mk hto
  clear hto
  by_cases hm : mode = 0 ∨ mode = 1
  · have HE := Aside0.mk (show stErr rk st M mode t = 0 by unfold stErr; rw [HAU.out, HTO.out, if_pos rfl, if_pos rfl, if_pos hm])
    rcases hm with hm | hm
    · subst hm
      go_wp2
      go_ret
      exact ⟨by rw [HE.out]; rfl, (HS3.out).hb⟩
    · subst hm
      go_wp2
      go_ret
      exact ⟨by rw [HE.out]; rfl, (HS3.out).hb⟩
  · have HE := Aside0.mk (show stErr rk st M mode t = 2 by unfold stErr; rw [HAU.out, HTO.out, if_pos rfl, if_pos rfl, if_neg hm])
    have d1 : (mode == 0) = false := beq_eq_false_iff_ne.2 (fun h => hm (.inl h))
    have d2 : (mode != 0) = true := bne_iff_ne.2 (fun h => hm (.inl h))
    have d3 : (mode == 1) = false := beq_eq_false_iff_ne.2 (fun h => hm (.inr h))
    have d4 : (mode != 1) = true := bne_iff_ne.2 (fun h => hm (.inr h))
    clear hm
    go_wp2
    go_ret
    exact ⟨by rw [HE.out]; rfl, (HS3.out).hb⟩
theorem raccT_calls (rk : List Int) (M : Mv) (st mode : Int) (t : S28) (A1 : Option Addr) (c1 : Nat) (A2 : Option Addr) (c2 : Nat) (A : Option Addr) (c : Nat) (w : World)
    (hM : Kd.C kA3 w A2 M.length M) (hC : Kd.C k28 w A t.f1.length t.f1) (hc : t.f1.length ≤ c) (he : stErr rk st M mode t = 0) (W : World) (hW : Below w.heap.size w W) :
    Calls Tryz.prog 44 #[.agg #[.slice A1 rk.length c1, .int .i64 st, .slice A2 M.length c2], .int .i64 mode, .agg #[.int .i64 t.f0, .slice A t.f1.length c]] W (AccE M (decide (mode = 0)) t W) := by
  obtain ⟨h1, h2, h3⟩ := stErr_zero he
  have ok := auOk h1
  simp only [treeOk, Bool.and_eq_true, decide_eq_true_eq] at h2
  exact racc_calls mode _ rfl rk M (mvOk_of h1).1 (fun row hr a ha => ⟨ok.alts row hr a ha, ok.lens row hr a ha⟩) st A1 rk.length c1 A2 c2 w hM _ t (Nat.le_refl _) h2.1.1 h2.2 A c W hW hC hc
set_option maxHeartbeats 8000000 in
set_option maxRecDepth 100000 in
theorem rstates_calls (rk : List Int) (M : Mv) (st mode : Int) (t : S28) (A1 : Option Addr) (c1 : Nat) (A2 : Option Addr) (c2 : Nat) (A : Option Addr) (c : Nat) (w : World)
    (hr : Kd.C (Kd.int .i64) w A1 rk.length rk) (hc1 : rk.length ≤ c1) (hM : Kd.C kA3 w A2 M.length M) (hc2 : M.length ≤ c2) (hC : Kd.C k28 w A t.f1.length t.f1) (hc : t.f1.length ≤ c) :
    Calls Tryz.prog 14 #[.agg #[.slice A1 rk.length c1, .int .i64 st, .slice A2 M.length c2], .int .i64 mode, .agg #[.int .i64 t.f0, .slice A t.f1.length c]] w (StE rk st M mode t w) := by
  have HCK := Aside0.mk fun W (hW : Below w.heap.size w W) => rchecked_calls rk M st mode t A1 c1 A2 c2 A c W (Kd.C_below hr hW) hc1 (Kd.C_below hM hW) hc2 (Kd.C_below hC hW) hc
  have HAC := Aside0.mk (raccT_calls rk M st mode t A1 c1 A2 c2 A c w hM hC hc)
  have HS := Aside0.mk (AT2.start w #[.slice A1 rk.length c1, .int .i64 st, .slice A2 M.length c2] #[.int .i64 t.f0, .slice A t.f1.length c])
  clear hr hc1 hM hC hc hc2
  go_enter Tryz.func14, Tryz.ntmps14
  go_upto_region 1 with (fail)
  generalize ((w.alloc (.cells #[.slice A1 rk.length c1, .int .i64 st, .slice A2 M.length c2] 25)).alloc (.cells #[.int .i64 t.f0, .slice A t.f1.length c] 28)) = W1 at *
  obtain ⟨hk0, hk1, hk2⟩ := box3_cells (HS.out).h1
  obtain ⟨hk3, hk4⟩ := box2_cells (HS.out).h2
  go_wp2_with fail
  refine (HCK.out _ (HS.out).hb).mono ?_
  rintro E w2 ⟨rfl, hb⟩
  have HS2 := Aside0.mk ((HS.out).below hb)
  clear hb hk0 hk1 hk2 hk3 hk4 HS HCK
  cases q1 : (stErr rk st M mode t != 0) with
  | true =>
    have HV := Aside0.mk (show stV rk st M mode t = [] by unfold stV; rw [if_neg (by simpa using q1)])
    go_wp2
    go_ret2
    exact StE.of (l := []) (c := 0) HV.out rfl (Nat.le_refl _) (Kd.R_reads' (Kd.R_nil (Kd.int .i64) 3 w2 0 (fun _ => True))).2.2 (HS2.out).hb
  | false =>
  have he : stErr rk st M mode t = 0 := by simpa using q1
  have HN := Aside0.mk (auOk (stErr_zero he).1).nM
  have HAC2 := Aside0.mk (HAC.out he)
  have HV := Aside0.mk (show stV rk st M mode t = stL M.length (accG M (decide (mode = 0)) t) by unfold stV; rw [if_pos he])
  have HER := Aside0.mk he
  rw [he] at q1 ⊢
  clear HAC he
  obtain ⟨hk0, hk1, hk2⟩ := box3_cells (HS2.out).h1
  obtain ⟨hk3, hk4⟩ := box2_cells (HS2.out).h2
  go_wp2_with fail
  refine (HAC2.out _ (HS2.out).hb).mono ?_
  rintro E w3 ⟨v3, rfl, hR, hb⟩
  have HS3 := Aside0.mk ((HS2.out).below hb)
  obtain ⟨A5, c5, e5⟩ := Kd.R_slice hR
  rw [bsF_len] at e5
  subst e5
  have HC5 := Aside0.mk (show Kd.C Kd.bool w3 A5 M.length (bsF M.length (accG M (decide (mode = 0)) t)) by have h := (Kd.R_reads' hR).2.2; rwa [bsF_len] at h)
  clear hb hR hk0 hk1 hk2 hk3 hk4 HS2 HAC2 q1
  generalize hp0 : accG M (decide (mode = 0)) t = p at *
  clear hp0
  go_wp2
  go_loopg [24, 9] M.length (fun gg v24 v9 wi => ∃ (i : Nat) (vk : Value), i ≤ M.length ∧ M.length - i ≤ gg ∧ v24 = .int .i64 i ∧ v9 = vk ∧ Aside0 (Kd.R (Kd.int .i64) 3 wi w3.heap.size (fun k => w3.heap.size ≤ k) vk (stL i p)) ∧ Aside0 (Below w3.heap.size w3 wi))
  case atStart => exact ⟨0, _, Nat.zero_le _, Nat.le_refl _, rfl, rfl, ⟨Kd.R_nil _ _ _ _ _⟩, ⟨Below.refl _ _⟩⟩
  case round =>
    obtain ⟨i, vk, hi, hgg, rfl, rfl, HR, HB⟩ := hrel
    by_cases hlt : i < M.length
    · have hltz : (i : Int) < (M.length : Int) := by omega
      have HLT := Aside0.mk hlt
      have HKZ := Aside0.mk (show wrap64 ((i : Int) + 1) = ((i + 1 : Nat) : Int) by rw [wr_id (by omega) (by have := HN.out; omega)]; rfl)
      obtain ⟨ad, e, hk⟩ := at_bool HC5.out i hlt
      subst e
      rw [bsF_getD hlt] at hk
      replace hk := pw_cell_below HB.out hk
      have HSS := Aside0.mk (stL_succ i p)
      have HLL := Aside0.mk (stL_len i p)
      clear hlt hi
      cases hp : p i with
      | false =>
        rw [hp] at hk HSS
        clear hp
        go_wp2
        go_roundg (M.length - (i + 1))
        case measure => have := HLT.out; omega
        case rel => exact ⟨i + 1, _, HLT.out, Nat.le_refl _, by rw [HKZ.out], rfl, ⟨by rw [HSS.out]; simpa using HR.out⟩, HB⟩
      | true =>
        rw [hp] at hk HSS
        clear hp
        obtain ⟨A9, c9, e9⟩ := Kd.R_slice HR.out
        subst e9
        go_wp2_with ((with_reducible refine gate_builtin (b := .append) (xs := #[.tmp 30, .tmp 32]) rfl ?_); at_builtin; refine Kd.R_append (Kd.int .i64) (w0 := w3) w3.heap.size rfl (.tmp 30) (.tmp 32) 22 3 (.int .i64 0) 8 rfl Tryz.underlying22 Q.info3 rfl (by decide) (by omega) (.slice A9 (stL i p).length c9) (stL i p) (i : Int) [.int .i64 (i : Int)] (fun k => w3.heap.size ≤ k) (fun _ => False) rfl rfl rfl (fun _ hk => hk.elim) (fun k hk => Nat.le_trans (HB.out).size hk) HR.out HB.out (HB.out).size (by have := HLL.out; have := HLT.out; have := HN.out; omega) ?_; intro v5 w5 ho5 hb5 hg5 hat5; have HR5 := Aside0.mk ho5; have HB5 := Aside0.mk hb5; clear ho5 hb5 hg5 hat5)
        go_roundg (M.length - (i + 1))
        case measure => have := HLT.out; omega
        case rel => exact ⟨i + 1, _, HLT.out, Nat.le_refl _, by rw [HKZ.out], rfl, ⟨by rw [HSS.out]; simpa using HR5.out⟩, HB5⟩
    · obtain rfl : i = M.length := by omega
      obtain ⟨A9, c9, e9⟩ := Kd.R_slice HR.out
      subst e9
      have HRD := Aside0.mk (Kd.R_reads' HR.out)
      have HBB := Aside0.mk (below_then (HS3.out).hb (HS3.out).hb.size HB.out)
      clear hi hgg hlt
      go_wp2
      go_ret2
      exact StE.of HV.out HER.out (HRD.out).2.1 (HRD.out).2.2 HBB.out
end Go.Proofs.YtbmcigakiibncaaGreatDoor.H
namespace Go.Proofs.YtbmcigakiibncaaGreatDoor.H
open Go.RowKit Go.Proofs.YtbmcigakiibncaaGreatDoorW.PrintWords Go.Proofs.YtbmcigakiibncaaGreatDoorW.PrintLast Go.Proofs.YtbmcigakiibncaaGreatDoorW.PrintMore
open Go.Proofs.YtbmcigakiibncaaGreatDoor.Q (S28 k28 z28 rd_T28 at_T28)
set_option linter.unusedVariables false
set_option linter.unusedSimpArgs false
theorem in_eq : ∀ (k : Nat) (x0 x1 : List Int) (x12 x13 : Int), Q.virgationlaw09_ints.l0 k x0 x1 x12 x13 = Q.slices_Equal_int_int.l0 k x0 x1 x12 x13
  | 0, _, _, _, _ => rfl
  | k + 1, x0, x1, x12, x13 => by
    simp only [Q.virgationlaw09_ints.l0, Q.slices_Equal_int_int.l0]
    rw [in_eq k]
theorem ints_calls (A : Option Addr) (c : Nat) (a : List Int) (B : Option Addr) (d : Nat) (b : List Int) (w : World) (hA : Kd.C (Kd.int .i64) w A a.length a) (hc : a.length ≤ c) (hB : Kd.C (Kd.int .i64) w B b.length b) (hd : b.length ≤ d) :
    Calls Tryz.prog 17 #[.slice A a.length c, .slice B b.length d] w fun e w' => e = .returned (.bool (eqI a b)) ∧ Below w.heap.size w w' := by
  obtain ⟨k, hk⟩ := (show Ev (fun k => Q.virgationlaw09_ints.f k a b) (eqI a b) from Ev.congr (fun k => by unfold Q.virgationlaw09_ints.f Q.slices_Equal_int_int.f; rw [in_eq]) (eqI_ev a b hA.2.1)).rounds
  exact (Q.virgationlaw09_ints.calls k A c a B d b _ w hA hc hB hd hk).mono fun e w' h => ⟨h.1, by first | exact h.2 | exact h.2.below⟩
theorem AT2.cells {w W : World} {x y z s v : Value} (h : AT2 w W #[x, y, z] #[s, v]) : (W.cell? ⟨w.heap.size, 0, none⟩ = some x ∧ W.cell? ⟨w.heap.size, 1, none⟩ = some y ∧ W.cell? ⟨w.heap.size, 2, none⟩ = some z) ∧ (W.cell? ⟨w.heap.size + 1, 0, none⟩ = some s ∧ W.cell? ⟨w.heap.size + 1, 1, none⟩ = some v) :=
  ⟨box3_cells h.h1, box2_cells h.h2⟩
def tabT16 : Bool × List (List Nat × List Nat) := (true, [([], []), ([], []), ([], []), ([0, 1, 2], [0, 1, 2]), ([], []), ([4], [4]), ([3, 5], [3, 5]), ([6], [6]), ([7, 3, 0, 1, 2, 3, 4, 5, 6, 7], [7]), ([8, 0, 1, 2, 3, 4, 5, 6, 7, 8], [])])
theorem tab16 : rtab .any (opsOf Tryz.f16 4) = tabT16 := by kernel_rfl
theorem bits16 : waitsOk tabT16.2 [0, 0, 0, 7, 0, 16, 63, 127, 255, 511] = true := by kernel_rfl
theorem AT2.flat {w W : World} {x y z s v : Value} (h : AT2 w W #[x, y, z] #[s, v]) : W.cell? ⟨w.heap.size, 0, none⟩ = some x ∧ W.cell? ⟨w.heap.size, 1, none⟩ = some y ∧ W.cell? ⟨w.heap.size, 2, none⟩ = some z ∧ W.cell? ⟨w.heap.size + 1, 0, none⟩ = some s ∧ W.cell? ⟨w.heap.size + 1, 1, none⟩ = some v :=
  ⟨h.cells.1.1, h.cells.1.2.1, h.cells.1.2.2, h.cells.2.1, h.cells.2.2⟩
set_option maxHeartbeats 8000000 in
set_option maxRecDepth 100000 in
theorem raccepted_calls (rk : List Int) (M : Mv) (st mode : Int) (t : S28) (A1 : Option Addr) (c1 : Nat) (A2 : Option Addr) (c2 : Nat) (A : Option Addr) (c : Nat) (w : World)
    (hr : Kd.C (Kd.int .i64) w A1 rk.length rk) (hc1 : rk.length ≤ c1) (hM : Kd.C kA3 w A2 M.length M) (hc2 : M.length ≤ c2) (hC : Kd.C k28 w A t.f1.length t.f1) (hc : t.f1.length ≤ c) :
    Calls Tryz.prog 16 #[.agg #[.slice A1 rk.length c1, .int .i64 st, .slice A2 M.length c2], .int .i64 mode, .agg #[.int .i64 t.f0, .slice A t.f1.length c]] w fun E w' => E = .returned (.tuple #[.bool (isV rk st M mode t), .int .i64 (stErr rk st M mode t)]) ∧ Below w.heap.size w w' := by
  have HCK := Aside0.mk fun W (hW : Below w.heap.size w W) => rchecked_calls rk M st mode t A1 c1 A2 c2 A c W (Kd.C_below hr hW) hc1 (Kd.C_below hM hW) hc2 (Kd.C_below hC hW) hc
  have HAC := Aside0.mk (raccT_calls rk M st mode t A1 c1 A2 c2 A c w hM hC hc)
  have HS := Aside0.mk (AT2.start w #[.slice A1 rk.length c1, .int .i64 st, .slice A2 M.length c2] #[.int .i64 t.f0, .slice A t.f1.length c])
  clear hr hc1 hM hC hc hc2
  go_enter Tryz.func16, Tryz.ntmps16
  go_upto_region 1 with (fail)
  generalize ((w.alloc (.cells #[.slice A1 rk.length c1, .int .i64 st, .slice A2 M.length c2] 25)).alloc (.cells #[.int .i64 t.f0, .slice A t.f1.length c] 28)) = W1 at *
  obtain ⟨hk0, hk1, hk2⟩ := box3_cells (HS.out).h1
  obtain ⟨hk3, hk4⟩ := box2_cells (HS.out).h2
  go_wp2_with fail
  refine (HCK.out _ (HS.out).hb).mono ?_
  rintro E w2 ⟨rfl, hb⟩
  have HS2 := Aside0.mk ((HS.out).below hb)
  clear hb hk0 hk1 hk2 hk3 hk4 HS HCK
  cases q1 : (stErr rk st M mode t != 0) with
  | true =>
    have HV := Aside0.mk (show isV rk st M mode t = false by unfold isV; rw [decide_eq_false (by simpa using q1)]; rfl)
    go_wp2
    go_ret2
    exact ⟨by rw [HV.out]; rfl, (HS2.out).hb⟩
  | false =>
  have he : stErr rk st M mode t = 0 := by simpa using q1
  have ok := auOk (stErr_zero he).1
  obtain ⟨s, rfl⟩ : ∃ s : Nat, st = (s : Int) := ⟨st.toNat, by have := ok.st0; omega⟩
  have HSM := Aside0.mk (show s < M.length from by have := ok.st1; omega)
  have HAC2 := Aside0.mk (HAC.out he)
  have HV := Aside0.mk (show isV rk (s : Int) M mode t = accG M (decide (mode = 0)) t s by unfold isV; rw [decide_eq_true he, Bool.true_and, Int.toNat_natCast])
  have HER := Aside0.mk he
  rw [he] at q1 ⊢
  clear HAC he ok
  have hsz : (s : Int) < (M.length : Int) := by have := HSM.out; omega
  have hs0 : (0 : Int) ≤ (s : Int) := by omega
  go_upto_region 4 with (fail)
  have HS0 := Aside0.mk ((HS2.out).below (below_drew (Below.refl _ _)))
  refine wp_region_noPanic ?_
  refine start_ (n := 10) (S := fun w' => w'.cell? ⟨w.heap.size, 0, none⟩ = some (.slice A1 rk.length c1) ∧ w'.cell? ⟨w.heap.size, 1, none⟩ = some (.int .i64 (s : Int)) ∧ w'.cell? ⟨w.heap.size, 2, none⟩ = some (.slice A2 M.length c2) ∧ w'.cell? ⟨w.heap.size + 1, 0, none⟩ = some (.int .i64 t.f0) ∧ w'.cell? ⟨w.heap.size + 1, 1, none⟩ = some (.slice A t.f1.length c)) (ds := [9]) #[false, false, false, false, false, false, false, false, false, false] (by kernel_rfl) rfl rfl (HS0.out).flat (fun hHeld => ?_)
  refine with_tabW tab16 bits16 (fun HT_ HW_ => ?_)
  generalize w2.drew = w3 at HS0 hHeld ⊢
  refine take_ (i := 0) (N := some 16) (v := ?_) (a' := ?_) #[true, false, false, false, false, false, false, false, false, false] rfl rfl (take_ofW HT_.out HW_.out (by kernel_rfl)) (fun _ _ _ h => h) (Or.inl ⟨by rfl, ?_⟩) hHeld ?_ ?_
  rotate_left
  · rintro w' ⟨s0, s1, s2, s3, s4⟩
    go_simp
    with_reducible rfl
  rotate_left
  · simp only [Act.put, List.setIfInBounds_toArray, List.set_cons_zero, List.set_cons_succ]
    rfl
  refine take_ (i := 1) (N := some 17) (v := ?_) (a' := ?_) #[true, true, false, false, false, false, false, false, false, false] rfl rfl (take_ofW HT_.out HW_.out (by kernel_rfl)) (fun _ _ _ h => h) (Or.inl ⟨by rfl, ?_⟩) hHeld ?_ ?_
  rotate_left
  · rintro w' ⟨s0, s1, s2, s3, s4⟩
    go_simp
    with_reducible rfl
  rotate_left
  · simp only [Act.put, List.setIfInBounds_toArray, List.set_cons_zero, List.set_cons_succ]
    rfl
  refine take_ (i := 2) (N := some 18) (v := ?_) (a' := ?_) #[true, true, true, false, false, false, false, false, false, false] rfl rfl (take_ofW HT_.out HW_.out (by kernel_rfl)) (fun _ _ _ h => h) (Or.inl ⟨by rfl, ?_⟩) hHeld ?_ ?_
  rotate_left
  · rintro w' ⟨s0, s1, s2, s3, s4⟩
    go_simp
    with_reducible rfl
  rotate_left
  · simp only [Act.put, List.setIfInBounds_toArray, List.set_cons_zero, List.set_cons_succ]
    rfl
  refine take_ (i := 4) (N := some 20) (v := ?_) (a' := ?_) #[true, true, true, false, true, false, false, false, false, false] rfl rfl (take_ofW HT_.out HW_.out (by kernel_rfl)) (fun _ _ _ h => h) (Or.inl ⟨by rfl, ?_⟩) hHeld ?_ ?_
  rotate_left
  · rintro w' ⟨s0, s1, s2, s3, s4⟩
    go_simp
    with_reducible rfl
  rotate_left
  · simp only [Act.put, List.setIfInBounds_toArray, List.set_cons_zero, List.set_cons_succ]
    rfl
  refine take_ (i := 5) (N := some 21) (v := ?_) (a' := ?_) #[true, true, true, false, true, true, false, false, false, false] rfl rfl (take_ofW HT_.out HW_.out (by kernel_rfl)) (fun _ _ _ h => h) (Or.inl ⟨by rfl, ?_⟩) hHeld ?_ ?_
  rotate_left
  · rintro w' ⟨s0, s1, s2, s3, s4⟩
    go_simp
    with_reducible rfl
  rotate_left
  · simp only [Act.put, List.setIfInBounds_toArray, List.set_cons_zero, List.set_cons_succ]
    rfl
  refine one_ (i := 3) (N := some 19) #[true, true, true, true, true, true, false, false, false, false] rfl rfl (one_of HT_.out (by kernel_rfl)) (by decide) (fun K hK => ?_)
  refine goes_ (f := 44) Tryz.func44 (by kernel_rfl) rfl #[.agg #[.slice A1 rk.length c1, .int .i64 (s : Int), .slice A2 M.length c2], .int .i64 mode, .agg #[.int .i64 t.f0, .slice A t.f1.length c]] (by rfl) rfl rfl (by (try simp only [List.map_toArray, List.map_cons, List.map_nil]); rfl) ?_
  refine (HAC2.out _ (HS0.out).hb).mono ?_
  rintro E w4 ⟨v4, rfl, hR, hb⟩
  have HSa := Aside0.mk ((HS0.out).below hb)
  obtain ⟨A5, c5, e5⟩ := Kd.R_slice hR
  rw [bsF_len] at e5
  subst e5
  have hC5 := (Kd.R_reads' hR).2.2
  rw [bsF_len] at hC5
  obtain ⟨ad5, e6, hk5⟩ := at_bool hC5 s HSM.out
  subst e6
  rw [bsF_getD HSM.out] at hk5
  clear hb hR hC5
  refine ⟨_, rfl, ?_⟩
  refine hK.out _ _ (HSa.out).flat (fun hHeld => ?_)
  clear hK K
  refine norm_ (a' := ?_) ?_ ?_
  rotate_left
  · show Act.put _ (some 19) _ = _
    simp only [Act.put, List.setIfInBounds_toArray, List.set_cons_zero, List.set_cons_succ]
    rfl
  refine one_ (i := 6) (N := some 22) #[true, true, true, true, true, true, true, false, false, false] rfl rfl (one_of HT_.out (by kernel_rfl)) (by decide) (fun K hK => ?_)
  refine value_ (w1 := ?_) (v := ?_) (by rfl) rfl ?_ ?_
  rotate_left 2
  · go_simp
    constructor
    · rfl
    · rfl
  refine hK.out _ _ (HSa.out).flat (fun hHeld => ?_)
  clear hK K
  refine norm_ (a' := ?_) ?_ ?_
  rotate_left
  · show Act.put _ (some 22) _ = _
    simp only [Act.put, List.setIfInBounds_toArray, List.set_cons_zero, List.set_cons_succ]
    rfl
  refine one_ (i := 7) (N := some 23) #[true, true, true, true, true, true, true, true, false, false] rfl rfl (one_of HT_.out (by kernel_rfl)) (by decide) (fun K hK => ?_)
  refine value_ (w1 := ?_) (v := ?_) (by rfl) rfl ?_ ?_
  rotate_left 2
  · go_simp
    constructor
    · rfl
    · rfl
  refine hK.out _ _ (HSa.out).flat (fun hHeld => ?_)
  clear hK K
  refine norm_ (a' := ?_) ?_ ?_
  rotate_left
  · show Act.put _ (some 23) _ = _
    simp only [Act.put, List.setIfInBounds_toArray, List.set_cons_zero, List.set_cons_succ]
    rfl
  refine one_ (i := 8) (N := some 6) #[true, true, true, true, true, true, true, true, true, false] rfl rfl (one_of HT_.out (by kernel_rfl)) (by decide) (fun K hK => ?_)
  refine value_ (w1 := ?_) (v := ?_) (by rfl) rfl ?_ ?_
  rotate_left 2
  · go_simp
    constructor
    · rfl
    · rfl
  refine hK.out _ _ (HSa.out).flat (fun hHeld => ?_)
  clear hK K
  refine norm_ (a' := ?_) ?_ ?_
  rotate_left
  · show Act.put _ (some 6) _ = _
    simp only [Act.put, List.setIfInBounds_toArray, List.set_cons_zero, List.set_cons_succ]
    rfl
  refine last_ (i := 9) (N := some 7) #[true, true, true, true, true, true, true, true, true, true] rfl rfl (one_of HT_.out (by kernel_rfl)) (by decide) (fun K hK => ?_)
  refine value_ (w1 := ?_) (v := ?_) (by rfl) rfl ?_ ?_
  rotate_left 2
  · go_simp
    constructor
    · rfl
    · rfl
  refine hK.out _ _ ?_
  clear hK K
  refine norm_ (a' := ?_) ?_ ?_
  rotate_left
  · show Act.put _ (some 7) _ = _
    simp only [Act.put, List.setIfInBounds_toArray, List.set_cons_zero, List.set_cons_succ]
    rfl
  refine done_ (done_of HT_.out (by kernel_rfl)) ?_
  refine NoPanic.normal ?_
  go_wp2
  go_ret2
  exact ⟨by rw [HV.out, HER.out]; rfl, (HSa.out).hb⟩
set_option maxHeartbeats 8000000 in
set_option maxRecDepth 100000 in
theorem autoStates_calls (rk : List Int) (M : Mv) (st : Int) (A1 : Option Addr) (c1 : Nat) (A2 : Option Addr) (c2 : Nat) (mode : Int) (t : S28) (A : Option Addr) (c : Nat) (w : World)
    (hr : Kd.C (Kd.int .i64) w A1 rk.length rk) (hc1 : rk.length ≤ c1) (hM : Kd.C kA3 w A2 M.length M) (hc2 : M.length ≤ c2) (hC : Kd.C k28 w A t.f1.length t.f1) (hc : t.f1.length ≤ c) (hm : MX w) (ht : TabD w) :
    Calls Tryz.prog 3 #[.agg #[.slice A1 rk.length c1, .int .i64 st, .slice A2 M.length c2], .int .i64 mode, .agg #[.int .i64 t.f0, .slice A t.f1.length c]] w fun E w' => E = .returned (.bool true) ∧ Below w.heap.size w w' := by
  have H1 := Aside0.mk fun W (hW : Below w.heap.size w W) => statesE_calls rk M st mode t A1 c1 A2 c2 A c W (Kd.C_below hr hW) hc1 (Kd.C_below hM hW) (Kd.C_below hC hW) hc (ht.below hW).tab
  have H2 := Aside0.mk fun W (hW : Below w.heap.size w W) => rstates_calls rk M st mode t A1 c1 A2 c2 A c W (Kd.C_below hr hW) hc1 (Kd.C_below hM hW) hc2 (Kd.C_below hC hW) hc
  have H3 := Aside0.mk fun W (hW : Below w.heap.size w W) => aisG_calls rk M st mode t A1 c1 A2 c2 A c W (Kd.C_below hr hW) hc1 (Kd.C_below hM hW) (Kd.C_below hC hW) hc (ht.below hW).tab
  have H4 := Aside0.mk fun W (hW : Below w.heap.size w W) => raccepted_calls rk M st mode t A1 c1 A2 c2 A c W (Kd.C_below hr hW) hc1 (Kd.C_below hM hW) hc2 (Kd.C_below hC hW) hc
  have HAL := Aside0.mk fun W (hW : Below w.heap.size w W) => alive_calls W (MX.below hm hW) (ht.below hW)
  have HS := Aside0.mk (AT2.start w #[.slice A1 rk.length c1, .int .i64 st, .slice A2 M.length c2] #[.int .i64 t.f0, .slice A t.f1.length c])
  unfold StE at H1 H2
  clear hr hc1 hM hC hc hc2 hm ht
  go_enter Tryz.func3, Tryz.ntmps3
  go_upto_region 1 with (fail)
  generalize ((w.alloc (.cells #[.slice A1 rk.length c1, .int .i64 st, .slice A2 M.length c2] 25)).alloc (.cells #[.int .i64 t.f0, .slice A t.f1.length c] 28)) = W1 at *
  generalize stV rk st M mode t = l at *
  generalize stErr rk st M mode t = er at *
  generalize isV rk st M mode t = b at *
  obtain ⟨hk0, hk1, hk2⟩ := box3_cells (HS.out).h1
  obtain ⟨hk3, hk4⟩ := box2_cells (HS.out).h2
  go_wp2_with fail
  refine (H1.out _ (HS.out).hb).mono ?_
  rintro E W2 ⟨B1, d1, rfl, hl1, hC1, hb⟩
  have HS2 := Aside0.mk ((HS.out).below hb)
  have HC1 := Aside0.mk hC1
  have HL1 := Aside0.mk hl1
  clear hb hC1 hl1 HS H1 hk0 hk1 hk2 hk3 hk4
  obtain ⟨hk0, hk1, hk2⟩ := box3_cells (HS2.out).h1
  obtain ⟨hk3, hk4⟩ := box2_cells (HS2.out).h2
  go_wp2_with fail
  refine (H2.out _ (HS2.out).hb).mono ?_
  rintro E W3 ⟨B2, d2, rfl, hl2, hC2, hb⟩
  have HS3 := Aside0.mk ((HS2.out).below hb)
  have HC1' := Aside0.mk (Kd.C_below HC1.out hb)
  have HC2 := Aside0.mk hC2
  have HL2 := Aside0.mk hl2
  clear hb hC2 hl2 HS2 H2 HC1 hk0 hk1 hk2 hk3 hk4
  obtain ⟨hk0, hk1, hk2⟩ := box3_cells (HS3.out).h1
  obtain ⟨hk3, hk4⟩ := box2_cells (HS3.out).h2
  go_wp2_with fail
  refine (H3.out _ (HS3.out).hb).mono ?_
  rintro E W4 ⟨rfl, hb⟩
  have HS4 := Aside0.mk ((HS3.out).below hb)
  have HC1 := Aside0.mk (Kd.C_below HC1'.out hb)
  have HC2' := Aside0.mk (Kd.C_below HC2.out hb)
  clear hb HS3 H3 HC1' HC2 hk0 hk1 hk2 hk3 hk4
  obtain ⟨hk0, hk1, hk2⟩ := box3_cells (HS4.out).h1
  obtain ⟨hk3, hk4⟩ := box2_cells (HS4.out).h2
  go_wp2_with fail
  refine (H4.out _ (HS4.out).hb).mono ?_
  rintro E W5 ⟨rfl, hb⟩
  have HS5 := Aside0.mk ((HS4.out).below hb)
  have HIN := Aside0.mk (ints_calls B1 d1 l B2 d2 l W5 (Kd.C_below HC1.out hb) HL1.out (Kd.C_below HC2'.out hb) HL2.out)
  rw [(eqI_iff l l).2 rfl] at HIN
  clear hb HS4 H4 HC1 HC2' hk0 hk1 hk2 hk3 hk4
  go_wp2_with fail
  refine (HIN.out).mono ?_
  rintro E W6 ⟨rfl, hb⟩
  have HS6 := Aside0.mk ((HS5.out).below hb)
  clear hb HS5 HIN
  go_wp2_with fail
  refine (HAL.out _ (HS6.out).hb).mono ?_
  rintro E W7 ⟨rfl, hb⟩
  have HS7 := Aside0.mk ((HS6.out).below hb)
  clear hb HS6
  go_wp2
  go_ret
  exact ⟨rfl, (HS7.out).hb⟩
end Go.Proofs.YtbmcigakiibncaaGreatDoor.H
namespace Go.Proofs.YtbmcigakiibncaaGreatDoor.H
open Go.ChangeShapes Go.WideShapes Go.ChangeAt Go.RowKit Go.Deep Go.Proofs.YtbmcigakiibncaaGreatDoorW.PrintWords Go.Proofs.YtbmcigakiibncaaGreatDoorW.PrintLast Go.Proofs.YtbmcigakiibncaaGreatDoorW.PrintMore
open Go.Proofs.YtbmcigakiibncaaGreatDoor.Q (S28 k28 S83 k83)
set_option linter.unusedVariables false
set_option maxRecDepth 100000
def Opens {α : Type} (P : Program) (t : TypeId) (d : Kd α) (W : α → Prop) : Prop :=
  ∀ {H : Type} (enc : TypeId × Value → H) (w : World) (base : Nat) (held : Bool) (fuel : Nat) (cs : List Value) (x : DataW H × List MemPlace),
    DataW.trod enc P w base (fun _ => true) held fuel t cs = some x → ∃ a : α, d.K w a cs ∧ W a
theorem opens_int {P : Program} {t : TypeId} {k : IntKind} (ht : P.underlying t = some (.int k)) : Opens P t (Kd.int k) (fun a => (Lit.int k a).wf = true) := by
  intro H enc w base held fuel cs x h
  obtain ⟨n, rfl, _, hw⟩ := DataW.trod_int ht h
  exact ⟨n, rfl, hw⟩
theorem choose_list {α : Type} {p : Nat → α → Prop} {n : Nat} (h : ∀ i, i < n → ∃ y, p i y) : ∃ xs : List α, xs.length = n ∧ ∀ i y, xs[i]? = some y → p i y := by
  induction n with
  | zero => exact ⟨[], rfl, fun i y h => by simp at h⟩
  | succ n ih =>
    obtain ⟨xs, h1, h2⟩ := ih (fun i hi => h i (by omega))
    obtain ⟨y, hy⟩ := h n (by omega)
    refine ⟨xs ++ [y], by simp [h1], fun i z hz => ?_⟩
    rcases Nat.lt_or_ge i xs.length with hi | hi
    · rw [List.getElem?_append_left hi] at hz
      exact h2 i z hz
    · rw [List.getElem?_append_right hi] at hz
      have h3 : i - xs.length = 0 := by
        rcases Nat.eq_zero_or_pos (i - xs.length) with h | h
        · exact h
        · rw [List.getElem?_eq_none (by simp; omega)] at hz; cases hz
      rw [h3] at hz
      obtain rfl : y = z := by simpa using hz
      rw [show i = n from by omega]
      exact hy
theorem opens_slice {α : Type} {P : Program} {t e : TypeId} {d : Kd α} {W : α → Prop} (ht : P.underlying t = some (.slice e)) (hsz : P.cellsOf e = d.sz) (ho : Opens P e d W) : Opens P t (Kd.slice e d) (fun xs => ∀ x ∈ xs, W x) := by
  intro H enc w base held fuel cs x h
  rcases open_slice ht h with ⟨rfl, _⟩ | ⟨a, len, cap, m, n, D, Pl, rfl, _, hl, hm, hmm, _, hx⟩
  · exact ⟨[], ⟨none, 0, rfl, Nat.le_refl _, rfl, by simp, fun h0 => absurd h0 (by simp)⟩, by simp⟩
  · have hmm' : m = cap := by simpa using hmm
    have each : ∀ i, i < len → ∃ y : α, ∃ cs', w.cells? base (a.add (i * P.cellsOf e)) (P.cellsOf e) = some cs' ∧ d.K w y cs' ∧ W y := by
      intro i hi
      obtain ⟨cs', h1, h2⟩ := hx i (by omega)
      obtain ⟨y, hy, hw⟩ := ho enc w base held n cs' _ h2
      exact ⟨y, cs', h1, hy, hw⟩
    obtain ⟨xs, hxl, hxs⟩ := choose_list each
    refine ⟨xs, ⟨some a, cap, by rw [hxl], by omega, rfl, ?_, fun _ => ⟨a, rfl, fun j p hj => ?_⟩⟩, fun y hy => ?_⟩
    · have : maxLen = 9223372036854775807 := rfl
      omega
    · obtain ⟨cs', h1, h2, _⟩ := hxs j p hj
      obtain ⟨_, hlen, hcell⟩ := World.cells?_some h1
      refine ⟨cs', d.K_len h2, h2, fun i u hu => ?_⟩
      have hi : i < cs'.length := (List.getElem?_eq_some_iff.1 hu).1
      have h3 := hcell i (by omega)
      rw [Go.Deep.add_add, hsz] at h3
      rw [h3]; exact hu
    · obtain ⟨j, hj, rfl⟩ := List.getElem_of_mem hy
      obtain ⟨_, _, _, h3⟩ := hxs j _ (List.getElem?_eq_getElem hj)
      exact h3
theorem open_row {α H : Type} {enc : TypeId × Value → H} {P : Program} {t e : TypeId} {d : Kd α} {W : α → Prop} {w : World} {base fuel : Nat} {held : Bool} {v : Value} {x : DataW H × List MemPlace} (ht : P.underlying t = some (.slice e)) (hsz : P.cellsOf e = d.sz) (ho : Opens P e d W)
    (h : DataW.trod enc P w base (fun _ => true) held fuel t [v] = some x) : ∃ A c xs, v = .slice A xs.length c ∧ xs.length ≤ c ∧ d.C w A xs.length xs ∧ ∀ y ∈ xs, W y := by
  obtain ⟨xs, ⟨A, c, hv, hc, hC⟩, hW⟩ := opens_slice ht hsz ho enc w base held fuel [v] x h
  exact ⟨A, c, xs, by simpa using hv, hc, hC, hW⟩
theorem opens_need : Opens Tryz.prog 83 k83 (fun _ => True) := by
  intro H enc w base held fuel cs x h
  obtain ⟨y0, y1, n, rfl, hl, h0, h1⟩ := trod_struct2 Tryz.underlying83 h
  have o0 : (Tryz.prog.cellsOf 3) = 1 := by kernel_rfl
  have o2 : (Tryz.prog.cellsOf 83) = 2 := by kernel_rfl
  rw [o2] at hl
  match cs, hl with
  | [c0, c1], _ =>
    simp only [o0] at h0 h1
    obtain ⟨s, e0, _, _⟩ := DataW.trod_int Tryz.underlying3 h0
    obtain ⟨t, e1, _, _⟩ := DataW.trod_int Tryz.underlying3 h1
    obtain rfl : c0 = .int .i64 s := by simpa using e0
    obtain rfl : c1 = .int .i64 t := by simpa using e1
    exact ⟨⟨s, t⟩, Q.k83_mk w ⟨s, t⟩, trivial⟩
theorem opens_moves : Opens Tryz.prog 23 (Kd.slice 65 kA3) (fun _ => True) := by
  intro H enc w base held fuel cs x h
  obtain ⟨a, h1, _⟩ := opens_slice (e := 65) Tryz.underlying23 (by kernel_rfl) (opens_slice (e := 66) Tryz.underlying65 (by kernel_rfl) (opens_slice (e := 69) Tryz.underlying66 (by kernel_rfl) (opens_slice (e := 83) Tryz.underlying69 (by kernel_rfl) opens_need))) enc w base held fuel cs x h
  exact ⟨a, h1, trivial⟩
theorem open_kids {H : Type} {enc : TypeId × Value → H} {w : World} {base fuel : Nat} {held : Bool} {cs : List Value} {x : DataW H × List MemPlace} (h : DataW.trod enc Tryz.prog w base (fun _ => true) held fuel 26 cs = some x)
    (each : ∀ (fuel : Nat) (cs : List Value) (y : DataW H × List MemPlace), SizeOf.sizeOf y.1 < SizeOf.sizeOf x.1 → DataW.trod enc Tryz.prog w base (fun _ => true) held fuel 28 cs = some y → ∃ t : S28, k28.K w t cs) :
    ∃ (A : Option Addr) (c : Nat) (l : List S28), cs = [.slice A l.length c] ∧ l.length ≤ c ∧ k28.C w A l.length l := by
  rcases open_slice Tryz.underlying26 h with ⟨rfl, _⟩ | ⟨a, len, cap, m, n, D, Pl, rfl, _, hl, hm, hmm, hxe, hx⟩
  · exact ⟨none, 0, [], rfl, Nat.le_refl _, rfl, by simp, fun h0 => absurd h0 (by simp)⟩
  · have hmm' : m = cap := by simpa using hmm
    have hel : ∀ i, i < len → ∃ t : S28, ∃ cs', w.cells? base (a.add (i * Tryz.prog.cellsOf 28)) (Tryz.prog.cellsOf 28) = some cs' ∧ k28.K w t cs' := by
      intro i hi
      obtain ⟨cs', h1, h2⟩ := hx i (by omega)
      have hlt : SizeOf.sizeOf (D i) < SizeOf.sizeOf x.1 := by
        rw [hxe]
        have hmem : D i ∈ (List.range len).map D := List.mem_map.2 ⟨i, List.mem_range.2 hi, rfl⟩
        have := List.sizeOf_lt_of_mem hmem
        simp only [DataW.slice.sizeOf_spec]
        omega
      obtain ⟨t, ht⟩ := each n cs' _ hlt h2
      exact ⟨t, cs', h1, ht⟩
    obtain ⟨xs, hxl, hxs⟩ := choose_list hel
    have c28 : Tryz.prog.cellsOf 28 = 2 := by kernel_rfl
    refine ⟨some a, cap, xs, by rw [hxl], by omega, rfl, ?_, fun _ => ⟨a, rfl, fun j p hj => ?_⟩⟩
    · have : maxLen = 9223372036854775807 := rfl
      omega
    · obtain ⟨cs', h1, h2⟩ := hxs j p hj
      obtain ⟨_, hlen, hcell⟩ := World.cells?_some h1
      refine ⟨cs', k28.K_len h2, h2, fun i u hu => ?_⟩
      have hi : i < cs'.length := (List.getElem?_eq_some_iff.1 hu).1
      have h3 := hcell i (by omega)
      rw [Go.Deep.add_add, c28] at h3
      rw [show k28.sz = 2 from rfl, h3]; exact hu
theorem open_tree {H : Type} {enc : TypeId × Value → H} {w : World} {base : Nat} {held : Bool} (N : Nat) : ∀ (fuel : Nat) (cs : List Value) (x : DataW H × List MemPlace), SizeOf.sizeOf x.1 ≤ N → DataW.trod enc Tryz.prog w base (fun _ => true) held fuel 28 cs = some x → ∃ t : S28, k28.K w t cs := by
  induction N with
  | zero =>
    intro fuel cs x hN
    have : 0 < SizeOf.sizeOf x.1 := by cases x.1 <;> simp <;> omega
    omega
  | succ N ih =>
    intro fuel cs x hN h
    obtain ⟨y0, y1, n, rfl, hl, h0, h1⟩ := trod_struct2 Tryz.underlying28 h
    have o0 : (Tryz.prog.cellsOf 3) = 1 := by kernel_rfl
    have o1 : (Tryz.prog.cellsOf 26) = 1 := by kernel_rfl
    have o2 : (Tryz.prog.cellsOf 28) = 2 := by kernel_rfl
    rw [o2] at hl
    match cs, hl with
    | [c0, c1], _ =>
      simp only [o0, o1] at h0 h1
      obtain ⟨s, e0, _, _⟩ := DataW.trod_int Tryz.underlying3 h0
      obtain ⟨A, c, l, e1, hlc, hC⟩ := open_kids h1 (fun fuel cs y hy hh => ih fuel cs y (by simp only [DataW.agg.sizeOf_spec, List.cons.sizeOf_spec, List.nil.sizeOf_spec] at hN; omega) hh)
      obtain rfl : c0 = .int .i64 s := by simpa using e0
      obtain rfl : c1 = .slice A l.length c := by simpa using e1
      exact ⟨⟨s, l⟩, Q.k28_mk w ⟨s, l⟩ hlc hC⟩
theorem arg_tree {H : Type} {enc : TypeId × Value → H} {w : World} {base : Nat} {held : Bool} {v : Value} {d : DataW H} {p : List MemPlace} (hv : Value.okWide Tryz.prog w .any base 28 v) (h : DataW.Trod enc Tryz.prog w 0 (fun _ => true) held 28 v d p) :
    ∃ (t : S28) (A : Option Addr) (c : Nat), v = .agg #[.int .i64 t.f0, .slice A t.f1.length c] ∧ t.f1.length ≤ c ∧ k28.C w A t.f1.length t.f1 := by
  obtain ⟨x3, y3, _, _, n3, rfl, _, _, a3, b3⟩ := Go.Joins.open_agg2 Tryz.underlying28 (by kernel_rfl) (by kernel_rfl) hv h
  obtain ⟨s3, he3, _, we3⟩ := DataW.trod_int Tryz.underlying3 a3
  obtain rfl : x3 = .int .i64 s3 := by simpa using he3
  obtain ⟨A3, cc3, l3, hy3, hl3, hC3⟩ := open_kids b3 (fun fuel cs y hy hh => open_tree _ fuel cs y (Nat.le_refl _) hh)
  obtain rfl : y3 = .slice A3 l3.length cc3 := by simpa using hy3
  exact ⟨⟨s3, l3⟩, A3, cc3, rfl, hl3, hC3⟩
theorem arg_auto {H : Type} {enc : TypeId × Value → H} {w : World} {base : Nat} {held : Bool} {v : Value} {d : DataW H} {p : List MemPlace} (hv : Value.okWide Tryz.prog w .any base 25 v) (h : DataW.Trod enc Tryz.prog w 0 (fun _ => true) held 25 v d p) :
    ∃ (rk : List Int) (st : Int) (M : Mv) (A1 : Option Addr) (c1 : Nat) (A2 : Option Addr) (c2 : Nat), v = .agg #[.slice A1 rk.length c1, .int .i64 st, .slice A2 M.length c2] ∧ rk.length ≤ c1 ∧ Kd.C (Kd.int .i64) w A1 rk.length rk ∧ M.length ≤ c2 ∧ Kd.C kA3 w A2 M.length M ∧ (Lit.int .i64 st).wf = true ∧ ∀ x ∈ rk, (Lit.int .i64 x).wf = true := by
  obtain ⟨x0, y0, z0, _, _, _, n0, rfl, _, _, a0, b0, c0⟩ := Go.Joins.open_agg3 Tryz.underlying25 (by kernel_rfl) (by kernel_rfl) hv h
  obtain ⟨A1, c1, rk, rfl, hl1, hC1, hw1⟩ := open_row (d := Kd.int .i64) Tryz.underlying22 (by kernel_rfl) (opens_int Tryz.underlying3) a0
  obtain ⟨st, hs, _, ws⟩ := DataW.trod_int Tryz.underlying3 b0
  obtain rfl : y0 = .int .i64 st := by simpa using hs
  obtain ⟨M, ⟨A2, c2, e2, hl2, hC2⟩, _⟩ := opens_moves enc _ _ _ _ _ _ c0
  obtain rfl : z0 = .slice A2 M.length c2 := by simpa using e2
  exact ⟨rk, st, M, A1, c1, A2, c2, rfl, hl1, hC1, hl2, hC2, ws, hw1⟩
theorem own : ownKnob Tryz.prog.godebug = none := by kernel_rfl
theorem laidOut : laidOutB Tryz.prog = true := by kernel_rfl
theorem g64 : Tryz.prog.globalNamed "math/bits.deBruijn64tab" = some 1 := by kernel_rfl
theorem t64 : (Tryz.prog.globals[1]?).map (·.type) = some 156 := by kernel_rfl
abbrev laid7 : List (String × DataW Unit) := [("math/bits.deBruijn32tab", Rows.laid_math_bits_deBruijn32tab), ("math/bits.deBruijn64tab", Rows.laid_math_bits_deBruijn64tab), ("internal/strconv.uint64pow10", Rows.laid_internal_strconv_uint64pow10), ("unicode/utf8.acceptRanges", Rows.laid_unicode_utf8_acceptRanges), ("strconv.ErrRange", Rows.laid_strconv_ErrRange), ("strconv.ErrSyntax", Rows.laid_strconv_ErrSyntax), ("unicode/utf8.first", Rows.laid_unicode_utf8_first)]
theorem mx_of_shaped {w : World} (h : w.ShapedOpen Tryz.prog) : MX w :=
  Go.Proofs.cell_of_shapedOpen_int (g := 2) (t := 3) (zero := #[.int .i64 0]) h (of_decide_eq_true (by kernel_rfl)) (by kernel_rfl) rfl (by kernel_rfl) (by kernel_rfl) Tryz.underlying3
theorem tabD_of_laid {W : World} (h : laidMetH Tryz.prog laid7 W) : TabD W := by
  rw [MakeChecks.laidMetH_plain _ _ _ (by kernel_rfl)] at h
  obtain ⟨ps, ⟨g0, t0, cs0, f0, p0, q0, hg0, ht0, hv0, hd0, ⟨g1, t1, cs1, f1, p1, q1, hg1, ht1, hv1, hd1, _, _⟩, _⟩, _, _⟩ := h
  obtain rfl := Option.some.inj (g64.symm.trans hg1)
  obtain rfl := Option.some.inj (t64.symm.trans ht1)
  obtain ⟨xs, m1, rfl, hx1, hlen, hn, hel⟩ := DataW.trod_array Tryz.underlying156 hd1
  have c5 : Tryz.prog.cellsOf 5 = 1 := by kernel_rfl
  simp only [Prod.mk.injEq] at hx1
  have hxe := hx1.1
  intro i hi
  have h1 := hel i hi
  rw [c5, Nat.mul_one] at h1
  cases hxi : xs[i]? with
  | none =>
    have := List.getElem?_eq_none_iff.1 hxi
    omega
  | some x =>
    rw [hxi] at h1
    obtain ⟨n, e1, e2, _⟩ := DataW.trod_int Tryz.underlying5 h1
    have hc := World.var?_cell hg1 hv1 i
    rw [hc, ← Array.getElem?_toList]
    have h3 := congrArg (·[0]?) e1
    have h4 : cs1.toList[i]? = some (.int .u8 n) := by simpa [List.getElem?_take, List.getElem?_drop] using h3
    rw [h4]
    have h5 : (xs.map (·.1))[i]? = some (.lit (.int .u8 n)) := by rw [List.getElem?_map, hxi]; simp [e2]
    have h6 : (xs.map (·.1)) = Lib.deBruijn64tab.map fun (n : Nat) => (.lit (.int .u8 (n : Int)) : DataW Unit) := by
      first | exact (DataW.agg.inj hxe).symm | exact DataW.agg.inj hxe
    rw [h6, List.getElem?_map] at h5
    have h7 : i < Lib.deBruijn64tab.length := by rw [show Lib.deBruijn64tab.length = 64 from rfl]; exact hi
    rw [List.getElem?_eq_getElem h7] at h5
    have h8 : ((Lib.deBruijn64tab[i] : Nat) : Int) = n := by simpa using h5
    rw [List.getD, List.getElem?_eq_getElem h7]
    simp [h8]
theorem handed_and_shaped {H : Type} {enc : TypeId × Value → H} {a : Assume} {C : Checked} {os : Os} {f : FuncId} {fn : Func} {s : ChangeSpec} {conds : List PathCond} {apart fresh handsOn again : Bool} {X : World → Array Value → Prop}
    (hX : ∀ (w w' : World) (args : Array Value), w.heap = w'.heap → X w args → X w' args)
    (own : ownKnob C.prog.godebug = none) (started : os.Started) (noInit : C.prog.inits.idxOf? f = none) (hfn : C.prog.funcs[f]? = some fn)
    (witness : ∃ (w : World) (tape : Tape) (i : Input), w.os = os ∧ (w.forCall tape i).Shaped C.prog ∧ i.vars = [] ∧ Input.okWide C.prog (w.forCall tape i) .any w.heap.size f i ∧
      ((s.pre enc C.prog fn conds apart (w.forCall tape i).memory i.args ∧ X (w.forCall tape i).memory i.args) ∧ sizedMet enc C.prog fn (OpenSpec.ofChange s) apart (w.forCall tape i).memory i.args) ∧ a.holds C.prog (lone (Frame.enter C.prog f i.args .normal) [] (w.forCall tape i)))
    (contract : ∀ (W : World) (base : Nat) (args : Array Value) (ds gs : List (DataW H)) (before : List MemPlace),
      (∀ (j : Nat) t v, fn.params[j]? = some t → args[j]? = some v → Value.okWide C.prog W .any base t v) →
      DataW.Whole enc C.prog fn.params.toList s.vars apart W args.toList ds gs before →
      conds.all (PathCond.test C.prog ⟨fn.params.toList, ds, s.plain.varTypes C.prog, gs⟩) = true →
      X W args → W.ShapedOpen C.prog →
      Calls C.prog f args W fun e W' => ∃ v, e = .returned v ∧ s.post enc C.prog fn apart fresh handsOn again W args v W') :
    ReturnsInHanded a C os f .any (fun w args => (s.pre enc C.prog fn conds apart w args ∧ X w args) ∧ sizedMet enc C.prog fn (OpenSpec.ofChange s) apart w args) (s.post enc C.prog fn apart fresh handsOn again) := by
  refine returnsInHanded_of_calls own started noInit witness ?_
  intro w tape i _ hsh _ hok hpre hholds
  obtain ⟨_, _, _, fn', hfn', _, _, _, _, hval⟩ := hok
  have e : fn' = fn := Option.some.inj (hfn'.symm.trans hfn)
  subst e
  obtain ⟨⟨⟨ds, gs, before, hw, hc⟩, hx⟩, hz⟩ := hpre
  have hw' := DataW.Whole.of_heap (w' := w.forCall tape i) (by rfl) hw
  refine (contract (w.forCall tape i) w.heap.size i.args ds gs before hval hw' hc (hX _ _ _ (by rfl) hx) hsh).mono fun e W' ⟨v, he, hp⟩ => ?_
  subst he
  exact ChangeSpec.post_blind hp
end Go.Proofs.YtbmcigakiibncaaGreatDoor.H
