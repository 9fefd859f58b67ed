/- What autoDual_calls, handed_and_shaped, own, laidOut, laid7, mx_of_shaped, tabD_of_laid, arg_auto, arg_tree needs, out of my texts, by a program (slim.py). -/
import Derived.Test.YtbmcigakiibncaaGreatDoorSX3
namespace Go.Proofs.YtbmcigakiibncaaGreatDoor.H
open Go.RowKit Go.Proofs.YtbmcigakiibncaaGreatDoorW.PrintWords Go.Proofs.YtbmcigakiibncaaGreatDoorW.PrintLast Go.Proofs.YtbmcigakiibncaaGreatDoorW.PrintMore
set_option linter.unusedVariables false
set_option linter.unusedSimpArgs false
set_option maxHeartbeats 8000000 in
set_option maxRecDepth 100000 in
theorem get_calls (t : ByteArray) (w : World) (hm : MX w) :
    Calls Tryz.prog 26 #[.string t] w (GetE t w) := by
  have hmf := run_mkfun9
  have HM := Aside0.mk hm
  have HG := Aside0.mk (GH.start w)
  clear hm
  go_enter_defers Tryz.func26, Tryz.ntmps26
  go_upto_region 1 with (fail)
  generalize ((w.alloc (.cells #[.slice none 0 0, .int .i64 0, .slice none 0 0] 25)).alloc (.cells #[.int .i64 0] 29)) = W1 at *
  cases q1 : decide ((t.size : Int) > 65536) with
  | true =>
    obtain ⟨c0, c1, c2, c3⟩ := (HG.out).cells
    obtain ⟨f0, f1, f2, f3⟩ := (HG.out).frozen
    have HR := Aside0.mk (show getR t = (3, [], 0, []) by unfold getR; rw [if_pos (by have := of_decide_eq_true q1; omega)])
    have HQ := Aside0.mk ((((HG.out).set0 (.slice none 0 0)).set1 (.int .i64 0)).set2 (.slice none 0 0))
    go_wp2
    exact get_ret0 HR.out ((HQ.out).hb.setCell (p := ⟨w.heap.size + 1, 0, none⟩) (Nat.le_succ _) _) (blk_far (HQ.out).ha (by show w.heap.size ≠ w.heap.size + 1; omega) _) (blk_set (HQ.out).he 0 _) _ rfl rfl
  | false =>
  have hsz : t.size ≤ 65536 := by have := of_decide_eq_false q1; omega
  have HSZ := Aside0.mk hsz
  have HSP := Aside0.mk (split_calls t 10 W1 (by omega) ((HM.out).below (HG.out).hb))
  clear q1
  go_wp2_with fail
  refine (HSP.out).mono ?_
  rintro E w2 ⟨rfl, hw⟩
  have hb := below_alloc (Below.refl W1.heap.size W1) (.cells ((chunks t 10).map Value.string).toArray 9)
  have hbn := blk_new W1 (.cells ((chunks t 10).map Value.string).toArray 9)
  rw [← hw] at hb hbn
  have HG2 := Aside0.mk (GL.mk ((HG.out).below hb) hbn (by have := blk_lt (HG.out).he; omega))
  have HLS := Aside0.mk (show (chunks t 10).length ≤ 65537 from by have := chunks_short t 10; omega)
  have HV1 := Aside0.mk (fun h => getV_short (t := t) h)
  have HV2 := Aside0.mk (fun h => getV_end (t := t) h)
  have HV3 := Aside0.mk (fun h => getV_first (t := t) h)
  have HV4 := Aside0.mk (fun i hi h => getV_rank (t := t) (i := i) hi h)
  have HV5 := Aside0.mk (fun h => getV_second (t := t) h)
  have HV6 := Aside0.mk (fun h => getV_sec (t := t) h)
  have HCS := Aside0.mk (fun i => chunk_size t 10 i)
  clear hw hb hbn HG HSP
  generalize hLL : chunks t 10 = L at *
  generalize W1.heap.size = bl at *
  cases q2 : decide ((L.length : Int) < 3) with
  | true =>
    have HN := Aside0.mk (HV1.out (by have := of_decide_eq_true q2; omega))
    go_wp2
    exact get_panic (getR_bad HSZ.out HN.out) (HG2.out).g _ rfl rfl
  | false =>
  have hl3 : 3 ≤ L.length := by have := of_decide_eq_false q2; omega
  have HL3 := Aside0.mk hl3
  have hk := strs_cell (HG2.out).l (show L.length - 1 < L.length by omega)
  have hk0 := strs_cell (HG2.out).l (show 0 < L.length by omega)
  have HLE := Aside0.mk (HV2.out)
  clear HV2
  generalize hle : L.getD (L.length - 1) ByteArray.empty = le at *
  have HLEE := Aside0.mk hle
  generalize hs0 : L.getD 0 ByteArray.empty = s0 at *
  have HS0 := Aside0.mk hs0
  have HS0Z := Aside0.mk (show s0.size ≤ t.size by rw [← hs0]; exact HCS.out 0)
  clear hle hs0
  have hz2 : IntKind.i64.wrap ((L.length : Int) - 1) = (L.length : Int) - 1 := by have := HLS.out; simp [IntKind.wrap, IntKind.bits, IntKind.signed]; omega
  cases q3 : le.toList.isEmpty with
  | false =>
    have HN := Aside0.mk (HLE.out (fun e => by rw [e, Lib.toList_data] at q3; revert q3; decide))
    go_wp2
    exact get_panic (getR_bad HSZ.out HN.out) (HG2.out).g _ rfl rfl
  | true =>
    have HWO := Aside0.mk (wordsB_calls s0 sRanks w2 (by have := HS0Z.out; omega) ((HM.out).below (HG2.out).g.hb))
    go_wp2_with fail
    refine (HWO.out).mono ?_
    rintro E w3 ⟨hb, ⟨hne, rfl⟩ | ⟨hhd, o, rfl, ho, hws⟩⟩
    · have HN := Aside0.mk (HV3.out hne)
      have HG3 := Aside0.mk ((HG2.out).below hb)
      unfold pbad
      go_wp2
      exact get_panic (getR_bad HSZ.out HN.out) (HG3.out).g _ rfl rfl
    · have HG3 := Aside0.mk ((HG2.out).below hb)
      have HWS := Aside0.mk hws
      have HO := Aside0.mk ho
      have HHD := Aside0.mk hhd
      have HBW := Aside0.mk (show w.heap.size + 2 ≤ w2.heap.size from by have := blk_lt (HG2.out).l; have := (HG2.out).hbl; omega)
      have HLEM := Aside0.mk (show le = ByteArray.empty from string_inj (by rw [Lib.toList_data, Lib.toList_data]; rw [Lib.toList_data] at q3; rw [List.isEmpty_iff.1 q3]; rfl))
      clear hb hws ho hhd hk hk0 hz2 HG2 HWO q2 q3
      generalize w2.heap.size = bw at *
      generalize hws0 : chunks s0 32 = ws at *
      generalize hwd : ws.drop 1 = wd at *
      have HWZ := Aside0.mk (show ∀ i, (wd.getD i ByteArray.empty).size ≤ s0.size from fun i => by
        have h1 := chunk_size s0 32 (1 + i)
        rw [hws0] at h1
        rw [← hwd]
        rw [show (ws.drop 1).getD i ByteArray.empty = ws.getD (1 + i) ByteArray.empty by simp [List.getD_eq_getElem?_getD, List.getElem?_drop, Nat.add_comm]]
        exact h1)
      have HWD := Aside0.mk hwd
      have HWS0 := Aside0.mk hws0
      have HWL := Aside0.mk (show wd.length ≤ 65536 from by
        have h1 := chunks_short s0 32
        rw [hws0] at h1
        rw [← hwd, List.length_drop]
        have := HS0Z.out; have := HSZ.out
        omega)
      clear hwd hws0
      go_wp2
      go_loopg [47] wd.length (fun gg v47 wi => ∃ (i : Nat) (A : Option Addr) (c : Nat), i ≤ wd.length ∧ wd.length - i ≤ gg ∧ v47 = .int .i64 i ∧ Aside0 (GL w wi (.slice A i c) (.int .i64 0) (.slice none 0 0) bl L) ∧ Aside0 (wi.heap[bw]? = some (.cells (ws.map Value.string).toArray 9 (0, 0))) ∧ Aside0 (Kd.R (Kd.int .i64) 3 wi w.heap.size (fun k => w.heap.size + 2 ≤ k) (.slice A i c) ((wd.take i).map valW)) ∧ Aside0 (∀ j, j < i → okW (wd.getD j ByteArray.empty) = true))
      case atStart => exact ⟨0, none, 0, Nat.zero_le _, Nat.le_refl _, rfl, HG3, HWS, ⟨Kd.R_nil _ _ _ _ _⟩, ⟨fun j hj => absurd hj (Nat.not_lt_zero _)⟩⟩
      case round =>
        clear HG3 HWS
        obtain ⟨i, A, c, hi, hgg, rfl, HG4, HWB, HR, HOK⟩ := hrel
        by_cases hlt : i < wd.length
        · have hltz : (i : Int) < (wd.length : Int) := by omega
          have hk := words_cell (HWB.out) (show i < (ws.drop 1).length by rw [HWD.out]; exact hlt) (by rw [HWD.out]; exact HO.out)
          rw [HWD.out] at hk
          have HS1Z := Aside0.mk (HWZ.out i)
          have HS1B := Aside0.mk (HV4.out i)
          generalize hs1 : wd.getD i ByteArray.empty = s1 at *
          have HS1 := Aside0.mk hs1
          clear hs1
          go_upto_region 10 with (fail)
          clear hk
          have HN := Aside0.mk (number_calls s1 wr.drew (by have := HS1Z.out; have := HS0Z.out; have := HSZ.out; omega))
          obtain ⟨k0, k1, k2, k3⟩ := (HG4.out).g.cells
          cases q4 : okW s1 with
          | false =>
            have HX := Aside0.mk (HS1B.out hlt q4)
            have HNE := Aside0.mk (show numE s1.data.toList = pbad by unfold numE; rw [show numOk s1.data.toList = false from q4]; rfl)
            rw [HNE.out] at HN
            have HPX := Aside0.mk (fun w4 (hb : Below wr.drew.heap.size wr.drew w4) => (HG4.out).below (below_then (below_drew (Below.refl wr.heap.size wr)) (below_drew (Below.refl wr.heap.size wr)).size hb))
            refine wp_region_any (by kernel_rfl) ?_
            change wpAny _ _ _ _ _ _ _ (World.drew _)
            refine wpAny_ready (rs := [0, 2]) (by kernel_rfl) (by simp) ?_
            refine AllReady.cons rfl (fun K hK => ?_) ?_
            · go_simp
              refine hK _ _ ?_
              clear hK K
              refine wpAny_ready (rs := [1, 2]) (by kernel_rfl) (by simp) ?_
              refine AllReady.cons rfl (fun K hK => ?_) ?_
              · go_simp
                refine hK _ _ ?_
                clear hK K
                refine wpAny_ready (rs := [2]) (by kernel_rfl) (by simp) ?_
                refine AllReady.cons rfl (fun K hK => ?_) ?_
                · go_simp
                  refine hK _ _ ?_
                  clear hK K
                  refine wpAny_ready (rs := [3]) (by kernel_rfl) (by simp) ?_
                  refine AllReady.cons rfl (fun K hK => ?_) ?_
                  · go_simp
                    go_wp2_with (go_at_call 61; refine (HN.out).mono ?_; rintro E w4 ⟨rfl, hb⟩; exact get_panic (getR_bad HSZ.out HX.out) ((HPX.out) _ hb).g _ rfl rfl)
                  exact AllReady.nil
                exact AllReady.nil
              refine AllReady.cons rfl (fun K hK => ?_) ?_
              · go_simp
                refine hK _ _ ?_
                clear hK K
                refine wpAny_ready (rs := [1, 3]) (by kernel_rfl) (by simp) ?_
                refine AllReady.cons rfl (fun K hK => ?_) ?_
                · go_simp
                  refine hK _ _ ?_
                  clear hK K
                  refine wpAny_ready (rs := [3]) (by kernel_rfl) (by simp) ?_
                  refine AllReady.cons rfl (fun K hK => ?_) ?_
                  · go_simp
                    go_wp2_with (go_at_call 61; refine (HN.out).mono ?_; rintro E w4 ⟨rfl, hb⟩; exact get_panic (getR_bad HSZ.out HX.out) ((HPX.out) _ hb).g _ rfl rfl)
                  exact AllReady.nil
                refine AllReady.cons rfl (fun K hK => ?_) ?_
                · go_simp
                  go_wp2_with (go_at_call 61; refine (HN.out).mono ?_; rintro E w4 ⟨rfl, hb⟩; exact get_panic (getR_bad HSZ.out HX.out) ((HPX.out) _ hb).g _ rfl rfl)
                exact AllReady.nil
              exact AllReady.nil
            refine AllReady.cons rfl (fun K hK => ?_) ?_
            · go_simp
              refine hK _ _ ?_
              clear hK K
              refine wpAny_ready (rs := [0, 3]) (by kernel_rfl) (by simp) ?_
              refine AllReady.cons rfl (fun K hK => ?_) ?_
              · go_simp
                refine hK _ _ ?_
                clear hK K
                refine wpAny_ready (rs := [1, 3]) (by kernel_rfl) (by simp) ?_
                refine AllReady.cons rfl (fun K hK => ?_) ?_
                · go_simp
                  refine hK _ _ ?_
                  clear hK K
                  refine wpAny_ready (rs := [3]) (by kernel_rfl) (by simp) ?_
                  refine AllReady.cons rfl (fun K hK => ?_) ?_
                  · go_simp
                    go_wp2_with (go_at_call 61; refine (HN.out).mono ?_; rintro E w4 ⟨rfl, hb⟩; exact get_panic (getR_bad HSZ.out HX.out) ((HPX.out) _ hb).g _ rfl rfl)
                  exact AllReady.nil
                refine AllReady.cons rfl (fun K hK => ?_) ?_
                · go_simp
                  go_wp2_with (go_at_call 61; refine (HN.out).mono ?_; rintro E w4 ⟨rfl, hb⟩; exact get_panic (getR_bad HSZ.out HX.out) ((HPX.out) _ hb).g _ rfl rfl)
                exact AllReady.nil
              refine AllReady.cons rfl (fun K hK => ?_) ?_
              · go_simp
                go_wp2_with (go_at_call 61; refine (HN.out).mono ?_; rintro E w4 ⟨rfl, hb⟩; exact get_panic (getR_bad HSZ.out HX.out) ((HPX.out) _ hb).g _ rfl rfl)
              exact AllReady.nil
            exact AllReady.nil
          | true =>
            have HQ4 := Aside0.mk q4
            refine wp_region_noPanic ?_
            have HN2 := Aside0.mk (show numE s1.data.toList = .returned (.int .i64 (valW s1)) by unfold numE; rw [show numOk s1.data.toList = true from q4]; rfl)
            rw [HN2.out] at HN
            have HPX := Aside0.mk (fun w4 (hb : Below wr.drew.heap.size wr.drew w4) => below_then (below_drew (Below.refl wr.heap.size wr)) (below_drew (Below.refl wr.heap.size wr)).size hb)
            have HLT := Aside0.mk hlt
            have hlen : (((wd.take i).map valW).length + 1) * 8 ≤ 140737488355328 := by rw [List.length_map, List.length_take]; have := HWL.out; omega
            have HLEN := Aside0.mk (show ((wd.take i).map valW).length = i by rw [List.length_map, List.length_take]; omega)
            have HTK := Aside0.mk (show (wd.take i).map valW ++ [valW s1] = (wd.take (i + 1)).map valW by
              rw [List.take_add_one, List.map_append]
              congr 1
              have e : wd[i]? = some s1 := by rw [← HS1.out]; simp [List.getD_eq_getElem?_getD, hlt]
              rw [e]; rfl)
            have HLE1 := Aside0.mk (show ((wd.take (i + 1)).map valW).length = i + 1 by rw [List.length_map, List.length_take]; omega)
            go_region_law (first
              | (go_simp; go_at_call 61; refine (HN.out).mono ?_; rintro E w4 ⟨rfl, hb⟩; have HB4 := Aside0.mk ((HPX.out) w4 hb); clear hb; have HG5 := Aside0.mk ((HG4.out).below HB4.out); have HR5 := Aside0.mk (Kd.R_below HR.out HB4.out); have HWB5 := Aside0.mk (blk_below HWB.out HB4.out); obtain ⟨m0, m1, m2, m3⟩ := (HG5.out).g.cells; have l0 := pw_cell_below (below_alloc (Below.refl w4.heap.size w4) (.cells #[.int .i64 (valW s1)] 3)) m0)
              | (refine Kd.R_append_step (Kd.int .i64) (w0 := w) (W := w4) w.heap.size (by simp [Region.wanted]) (.tmp 52) (.tmp 55) 22 3 (.int .i64 0) 8 rfl Tryz.underlying22 Q.info3 rfl (by decide) (by omega) (.slice A i c) ((wd.take i).map valW) (valW s1) [.int .i64 (valW s1)] (fun k => w.heap.size + 2 ≤ k) (fun _ => False) (by rfl) (by rfl) rfl (fun _ hk => hk.elim) (fun k hk => by have := blk_lt (HG5.out).l; have := (HG5.out).hbl; omega) HR5.out (HG5.out).g.hb (HG5.out).g.hb.size hlen ?_; intro v5 w5 ho5 hb5 hg5 hat5; rw [HTK.out] at ho5; (obtain ⟨A5, c5, e5⟩ := Kd.R_slice ho5); rw [HLE1.out] at e5; subst e5; have HR6 := Aside0.mk ho5; have HG6 := Aside0.mk ((HG5.out).app HR5.out (by decide) hb5 hg5); have HWB6 := Aside0.mk (blk_grown HWB5.out hg5 (fun hk => by obtain ⟨⟨cc, hcc⟩, _⟩ := ownBlock_typed HR5.out hk.symm; exact types_ne hcc HWB5.out (by decide) rfl)); clear ho5 hb5 hg5 hat5; obtain ⟨n0, n1, n2, n3⟩ := (HG6.out).g.cells; obtain ⟨g0, g1, g2, g3⟩ := (HG6.out).g.frozen)
              | fail)
            all_goals
              refine NoPanic.normal ?_
              go_wp2
              go_roundg (wd.length - (i + 1))
              case measure => have := HLT.out; omega
              case rel => exact ⟨i + 1, A5, c5, HLT.out, Nat.le_refl _, by rw [wr_id (x := (i : Int) + 1) (by omega) (by have := HLT.out; have := HWL.out; omega)]; rfl, ⟨(HG6.out).set0 _⟩, ⟨blk_far HWB6.out (by have := HBW.out; show bw ≠ w.heap.size; omega) _⟩, ⟨Kd.R_far HR6.out (p := ⟨w.heap.size, 0, none⟩) (fun k hk he => by have h0 : k = w.heap.size := he; omega) _⟩, ⟨fun j hj => by
                by_cases e : j = i
                · rw [e, HS1.out]; exact HQ4.out
                · exact HOK.out j (by omega)⟩⟩
        · obtain rfl : i = wd.length := by omega
          have HALL := Aside0.mk (show wd.all okW = true from List.all_eq_true.2 fun x hx => by
            obtain ⟨j, hj, hjx⟩ := List.mem_iff_getElem.1 hx
            have h1 := HOK.out j hj
            rw [List.getD_eq_getElem?_getD, List.getElem?_eq_getElem hj, hjx] at h1
            exact h1)
          rw [List.take_length] at HR
          clear hi hgg hlt HOK HWB HV4 HWZ
          have HN12 := Aside0.mk (Nat.lt_of_lt_of_le (show 1 < 3 by decide) HL3.out)
          have hk := strs_cell (HG4.out).l HN12.out
          have HS1Z := Aside0.mk (HCS.out 1)
          generalize hs1 : L.getD 1 ByteArray.empty = s1 at *
          have HS1 := Aside0.mk hs1
          have HWO := Aside0.mk (wordsB_calls s1 sStates wr (by have := HS1Z.out; have := HSZ.out; omega) ((HM.out).below (HG4.out).g.hb))
          clear hs1
          go_wp2_with fail
          refine (HWO.out).mono ?_
          rintro E w4 ⟨hb, ⟨hne, rfl⟩ | ⟨hhd, o2, rfl, ho, hws⟩⟩
          · have HN := Aside0.mk (HV5.out hne)
            have HG5 := Aside0.mk ((HG4.out).below hb)
            unfold pbad
            go_wp2
            exact get_panic (getR_bad HSZ.out HN.out) (HG5.out).g _ rfl rfl
          · have HG5 := Aside0.mk ((HG4.out).below hb)
            have HR5 := Aside0.mk (Kd.R_below HR.out hb)
            have HWS2 := Aside0.mk hws
            have HO2 := Aside0.mk ho
            have HHD2 := Aside0.mk hhd
            have HBW2 := Aside0.mk (show w.heap.size + 2 ≤ wr.heap.size from by have := blk_lt (HG4.out).l; have := (HG4.out).hbl; omega)
            have HWZ2 := Aside0.mk (show ∀ i, ((chunks s1 32).getD i ByteArray.empty).size ≤ 65536 from fun i => by have := chunk_size s1 32 i; have := HS1Z.out; have := HSZ.out; omega)
            clear hb hws ho hhd hk HG4 HR HWO HN12
            generalize wr.heap.size = bw2 at *
            generalize hws0 : chunks s1 32 = ws2 at *
            have HWS20 := Aside0.mk hws0
            clear hws0
            by_cases h3 : (ws2.drop 1).length = 3
            · obtain ⟨p, x1, x2, x3, rfl⟩ : ∃ p x1 x2 x3, ws2 = [p, x1, x2, x3] := by
                rw [List.length_drop] at h3
                match ws2, h3 with
                | [p, x1, x2, x3], _ => exact ⟨p, x1, x2, x3, rfl⟩
              obtain rfl : o2 = 1 := by have := HO2.out; simp at this; exact this
              have z1 : w4.cell? ⟨bw2, 1, none⟩ = some (.string x1) := (blk_cell HWS2.out 1).trans rfl
              have z2 : w4.cell? ⟨bw2, 2, none⟩ = some (.string x2) := (blk_cell HWS2.out 2).trans rfl
              have z3 : w4.cell? ⟨bw2, 3, none⟩ = some (.string x3) := (blk_cell HWS2.out 3).trans rfl
              have HX1Z := Aside0.mk (HWZ2.out 1)
              have HX3Z := Aside0.mk (HWZ2.out 3)
              have HSEC := Aside0.mk (show (secOk [x1, x2, x3] = false → getV t = none) from HV6.out)
              have HCE := Aside0.mk (show ∀ b : Bool, (x2.toList == [115, 116, 97, 114, 116]) = b → decide (x2 = sStart) = b from fun b hb => by
                have e : sStart.toList = [115, 116, 97, 114, 116] := by rw [Lib.toList_data]; rfl
                cases b with
                | true => exact decide_eq_true (string_inj (by rw [e]; exact hb))
                | false => exact decide_eq_false (string_ne (by rw [e]; exact hb)))
              cases q5 : (x2.toList == [115, 116, 97, 114, 116]) with
              | false =>
                have HN := Aside0.mk (HSEC.out (by show (decide (x2 = sStart) && okW x1 && okW x3) = false; rw [HCE.out _ q5]; rfl))
                go_wp2
                exact get_panic (getR_bad HSZ.out HN.out) (HG5.out).g _ rfl rfl
              | true =>
                have HX2 := Aside0.mk (HCE.out _ q5)
                have HN1 := Aside0.mk (number_calls x1 w4 (by have : x1.size ≤ 65536 := HX1Z.out; omega))
                go_wp2_with fail
                refine (HN1.out).mono ?_
                rintro E w5 ⟨rfl, hb⟩
                have HG6 := Aside0.mk ((HG5.out).below hb)
                have HR6 := Aside0.mk (Kd.R_below HR5.out hb)
                have HWS6 := Aside0.mk (blk_below HWS2.out hb)
                clear hb HG5 HR5 HWS2 z1 z2 z3 HN1 q5
                cases q6 : okW x1 with
                | false =>
                  have HN := Aside0.mk (HSEC.out (by show (decide (x2 = sStart) && okW x1 && okW x3) = false; rw [q6, HX2.out]; rfl))
                  rw [show numE x1.data.toList = pbad by unfold numE; rw [show numOk x1.data.toList = false from q6]; rfl]
                  unfold pbad
                  go_wp2
                  exact get_panic (getR_bad HSZ.out HN.out) (HG6.out).g _ rfl rfl
                | true =>
                rw [show numE x1.data.toList = .returned (.int .i64 (valW x1)) by unfold numE; rw [show numOk x1.data.toList = true from q6]; rfl]
                have HX1 := Aside0.mk q6
                have HN3 := Aside0.mk (number_calls x3 w5 (by have : x3.size ≤ 65536 := HX3Z.out; omega))
                have z3 : w5.cell? ⟨bw2, 3, none⟩ = some (.string x3) := (blk_cell HWS6.out 3).trans rfl
                clear q6
                go_wp2_with fail
                refine (HN3.out).mono ?_
                rintro E w6 ⟨rfl, hb⟩
                have HG7 := Aside0.mk ((HG6.out).below hb)
                have HR7 := Aside0.mk (Kd.R_below HR6.out hb)
                clear hb HG6 HR6 HWS6 z3 HN3
                cases q7 : okW x3 with
                | false =>
                  have HN := Aside0.mk (HSEC.out (by show (decide (x2 = sStart) && okW x1 && okW x3) = false; rw [q7, HX1.out, HX2.out]; rfl))
                  rw [show numE x3.data.toList = pbad by unfold numE; rw [show numOk x3.data.toList = false from q7]; rfl]
                  unfold pbad
                  go_wp2
                  exact get_panic (getR_bad HSZ.out HN.out) (HG7.out).g _ rfl rfl
                | true =>
                rw [show numE x3.data.toList = .returned (.int .i64 (valW x3)) by unfold numE; rw [show numOk x3.data.toList = true from q7]; rfl]
                have HX3 := Aside0.mk q7
                clear q7
                obtain ⟨k0, k1, k2, k3⟩ := (HG7.out).g.cells
                obtain ⟨f0, f1, f2, f3⟩ := (HG7.out).g.frozen
                go_upto_region 17 with (fail)
                have HG8 := Aside0.mk ((HG7.out).set1 (.int .i64 (valW x3)))
                have HR8 := Aside0.mk (Kd.R_far HR7.out (p := ⟨w.heap.size, 1, none⟩) (fun k hk he => by have h0 : k = w.heap.size := he; omega) (.int .i64 (valW x3)))
                generalize w6.setCell ⟨w.heap.size, 1, none⟩ (.int .i64 (valW x3)) = w7 at *
                clear HG7 HR7 k0 k1 k2 k3 f0 f1 f2 f3 HX1Z HX3Z HSEC HCE HV6 HWZ2
                have HST := Aside0.mk (num_nonneg HX1.out)
                generalize hst : valW x1 = states at *
                have HSTE := Aside0.mk hst
                clear hst
                have HV := Aside0.mk (getV_main hLL HL3.out (HLEE.out.trans HLEM.out) HS0.out HWS0.out HHD.out HWD.out HALL.out HS1.out HWS20.out HHD2.out (of_decide_eq_true HX2.out) HX1.out HX3.out)
                rw [HSTE.out] at HV
                clear HV1 HV3 HV5 HLE HLEE HLEM HS0 HS0Z HHD HWS0 HALL HS1Z HS1 HHD2 HWS20 HX2 HX3 HO2 HBW HBW2 hLL
                obtain ⟨N, hN⟩ : ∃ N : Nat, (if states < 7 then states else 7) = (N : Int) := ⟨(if states < 7 then states else 7).toNat, by have := HST.out; split <;> omega⟩
                have HN7 := Aside0.mk (show N ≤ 7 ∧ N = (min states 7).toNat from by split at hN <;> omega)
                have hmk : ∀ W : World, (Instr.makeSlice 65 (.int .i64 (wd.length : Int)) (.int .i64 (wd.length : Int))).run Tryz.prog W = .ok (.slice (some ⟨W.heap.size, 0, none⟩) wd.length wd.length) (W.alloc (.cells (madeCells #[.slice none 0 0] wd.length) 66)) := fun W => run_make_row' 65 66 (.slice none 0 0) 24 Tryz.underlying65 Q.info66 rfl .i64 .i64 wd.length (by have := HWL.out; omega) (by have := HWL.out; omega) W
                have hmin : min states 7 = (N : Int) := by have := (HN7.out).2; have := HST.out; omega
                go_wp2
                clear hmin
                go_loopg [85] N (fun gg v85 wi => ∃ (j : Nat) (A2 : Option Addr) (c2 : Nat) (gs : List Nat) (u : Nat → Nat → Value), j ≤ N ∧ N - j ≤ gg ∧ v85 = .int .i64 j ∧ Aside0 (GL w wi (.slice A wd.length c) (.int .i64 (valW x3)) (.slice A2 j c2) bl L) ∧ Aside0 (Kd.R (Kd.int .i64) 3 wi w.heap.size (fun k => w.heap.size + 2 ≤ k) (.slice A wd.length c) (wd.map valW)) ∧ Aside0 (MM w.heap.size (w.heap.size + 2) wi (.slice A2 j c2) (List.replicate j (List.replicate wd.length [])) wd.length gs u))
                case atStart => exact ⟨0, none, 0, [], _, Nat.zero_le _, Nat.le_refl _, rfl, HG8, HR8, ⟨MM.start _ _ _ _⟩⟩
                case round =>
                  clear HG8 HR8
                  obtain ⟨j, A2, c2, gs, u, hj, hgg, rfl, HG9, HR9, HMM⟩ := hrel
                  by_cases hlt : j < N
                  · have hltz : (j : Int) < (N : Int) := by omega
                    have HLT := Aside0.mk hlt
                    go_upto_region 19 with (fail)
                    obtain ⟨k0, k1, k2, k3⟩ := (HG9.out).g.cells
                    have hb1 := below_drew (Below.refl wr.heap.size wr)
                    have hb2 := below_alloc hb1 (.cells (madeCells #[.slice none 0 0] wd.length) 66)
                    have hnew := blk_new wr.drew (.cells (madeCells #[.slice none 0 0] wd.length) 66)
                    have m0 := pw_cell_below hb2 k0
                    have m2 := pw_cell_below hb2 k2
                    have HGA := Aside0.mk ((HG9.out).below hb2)
                    have HRA := Aside0.mk (Kd.R_below HR9.out hb2)
                    have HMA := Aside0.mk ((HMM.out).below hb2)
                    have q0_ := pw_cell_below (below_alloc (Below.refl wr.heap.size wr) (.cells (madeCells #[.slice none 0 0] wd.length) 66)) k0
                    have q2_ := pw_cell_below (below_alloc (Below.refl wr.heap.size wr) (.cells (madeCells #[.slice none 0 0] wd.length) 66)) k2
                    have l0 := pw_cell_below (below_alloc (Below.refl (wr.alloc (.cells (madeCells #[.slice none 0 0] wd.length) 66)).heap.size (wr.alloc (.cells (madeCells #[.slice none 0 0] wd.length) 66))) (.cells #[.slice (some ⟨wr.heap.size, 0, none⟩) wd.length wd.length] 65)) q0_
                    have l2 := pw_cell_below (below_alloc (Below.refl (wr.alloc (.cells (madeCells #[.slice none 0 0] wd.length) 66)).heap.size (wr.alloc (.cells (madeCells #[.slice none 0 0] wd.length) 66))) (.cells #[.slice (some ⟨wr.heap.size, 0, none⟩) wd.length wd.length] 65)) q2_
                    have HNEW := Aside0.mk (show (wr.drew.alloc (.cells (madeCells #[.slice none 0 0] wd.length) 66)).heap[wr.heap.size]? = some (.cells (Array.replicate wd.length (.slice none 0 0)) 66 (0, 0)) from by rw [← made_rep]; exact hnew)
                    have HGSL := Aside0.mk (show gs.length = j by rw [(HMM.out).len]; simp)
                    have HGLT := Aside0.mk (show ∀ q, q < (List.replicate j (List.replicate wd.length ([] : List (List Nd)))).length → gs.getD q 0 ≠ wr.heap.size from fun q hq => by have := blk_lt ((HMM.out).rows q hq).2.1; omega)
                    have HB2 := Aside0.mk (show w.heap.size + 2 ≤ wr.heap.size from by have := blk_lt (HG9.out).l; have := (HG9.out).hbl; omega)
                    clear hb1 hb2 hnew
                    refine wp_region_noPanic ?_
                    go_region_law (first
                      | (refine Kd.R_append_step (kRow wd.length) (w0 := w) (W := wr.drew.alloc (.cells (madeCells #[.slice none 0 0] wd.length) 66)) w.heap.size (by simp [Region.wanted]) (.tmp 88) (.tmp 93) 23 65 (.slice none 0 0) 24 rfl Tryz.underlying23 Q.info65 rfl (show 0 < 1 by decide) (by decide) (.slice A2 j c2) gs wr.heap.size [.slice (some ⟨wr.heap.size, 0, none⟩) wd.length wd.length] (fun k => w.heap.size + 2 ≤ k) (fun _ => False) (by rfl) (by show Value.slice (some ⟨wr.heap.size + 1, 0, none⟩) 1 1 = _; simp) rfl (fun _ hk => hk.elim) (fun k hk => by have := blk_lt (HGA.out).l; have := (HGA.out).hbl; omega) (HMA.out).row (HGA.out).g.hb (HGA.out).g.hb.size (by rw [HGSL.out]; have := (HN7.out).1; have := HLT.out; omega) ?_; intro v5 w5 ho5 hb5 hg5 hat5; have HMP := Aside0.mk ((HMA.out).push wr.heap.size HNEW.out HB2.out HGLT.out ho5 hg5); (obtain ⟨A5, c5, e5⟩ := Kd.R_slice ho5); rw [List.length_append, HGSL.out, List.length_singleton] at e5; subst e5; have HGP := Aside0.mk ((HGA.out).app (HMA.out).row (by decide) hb5 hg5); have HRP := Aside0.mk (R_grown9 HRA.out (HMA.out).row (by decide) (fun _ h => by cases h) hg5); clear ho5 hb5 hg5 hat5; obtain ⟨n0, n1, n2, n3⟩ := (HGP.out).g.cells; obtain ⟨g0, g1, g2, g3⟩ := (HGP.out).g.frozen)
                      | fail)
                    all_goals
                      refine NoPanic.normal ?_
                      go_wp2
                      go_roundg (N - (j + 1))
                      case measure => have := HLT.out; omega
                      case rel => exact ⟨j + 1, A5, c5, gs ++ [wr.heap.size], _, HLT.out, Nat.le_refl _, rfl, ⟨(HGP.out).set2 _⟩, ⟨Kd.R_far HRP.out (p := ⟨w.heap.size, 2, none⟩) (fun k hk he => by have h0 : k = w.heap.size := he; omega) _⟩, ⟨by rw [List.replicate_succ']; exact (HMP.out).far (by omega) _⟩⟩
                  · obtain rfl : N = j := by omega
                    clear hlt hj hgg hmk
                    rw [← (HN7.out).2] at HV
                    have hl3 := HL3.out
                    obtain ⟨n, hn⟩ : ∃ n, L.length = n + 3 := ⟨L.length - 3, by omega⟩
                    have HNL := Aside0.mk hn
                    have HLN := Aside0.mk (show n ≤ 65536 from by have := HLS.out; omega)
                    go_upto_region 22 with (fail)
                    rw [hn]
                    have hz1 : wrap64 ((n : Int) + 3 - 1) = (n : Int) + 2 := by rw [wr_id (by omega) (by have := HLN.out; omega)]; omega
                    have hz2 : (0 : Int) ≤ (n : Int) + 2 ∧ (n : Int) + 2 ≤ (n : Int) + 3 := by omega
                    have hz3 : max ((n : Int) + 2) 0 = (n : Int) + 2 := by omega
                    have hz4 : (2 : Int) ≤ (n : Int) + 2 := by omega
                    have hz5 : ((n : Int) + 2).toNat = n + 2 := by omega
                    go_wp2
                    have HV2 := Aside0.mk (show getV t = (gstep states wd.length ((L.drop 2).take n) (-1) (List.replicate N (List.replicate wd.length []))).map fun M => (wd.map valW, valW x3, M) from by have h0 := HV.out; rw [HNL.out] at h0; exact h0)
                    refine loop26 t w L wd n N bl _ A c A2 c2 (valW x3) states _ _ (List.replicate N (List.replicate wd.length [])) gs u _ _ _ _ _ _ _ _ _ _ _ _ _ _ _ _ _ _ _ _ _ _ _ _ _ _ _ _ _ _ _ _ _ _ _ _ _ _ _ _ _ _ _ _ _ _ _ _ _ _ _ _ _ _ _ _ _ _ _ _ _ _ _ _ _ _ _ _ _ _ _ _ _ _ _ _ _ _ _ _ _ _ _ _ _ _ _ _ _ _ _ _ _ _ _ _ _ _ _ _ _ _ _ _ _ _ _ _ _ _ _ _ _ _ _ _ _ _ _ _ _ _ _ _ _ _ _ _ _ _ _ _ _ _ _ _ _ _ _ _ _ _ _ _ _ _ _ _ _ _ _ _ _ _ _ _ _ _ _ _ _ _ _ _ _ _ _ _ _ _ _ _ _ _ _ _ _ _ _ _ _ _ _ _ _ HSZ HM HCS HWL HNL HLN HN7 HST ⟨List.length_replicate⟩ ⟨fun a b => by simp [List.getD_eq_getElem?_getD, List.getElem?_replicate]; split <;> simp [List.getElem?_replicate]; split <;> simp⟩ HG9 HR9 HMM HV2 ?_
                    clear HG9 HR9 HMM HV2 HV hz1 hz2 hz3 hz4 hz5
                    refine ⟨?_⟩
                    intro u9 u11 u12 u13 u14 u15 u16 u17 u18 u19 u20 u103 u104 u105 u106 u107 u108 u109 u110 u111 u112 u113 u114 u115 u116 u117 u118 u119 u120 u121 u122 u123 u124 u125 u126 u127 u128 u129 u130 u131 u132 u133 u134 u135 u136 u137 u138 u139 u140 u141 u142 u143 u144 u145 u146 u147 u148 u149 u150 u151 u152 u153 u154 u155 u156 u157 u158 u159 u160 u161 u162 u163 u164 u165 u166 u167 u168 u169 u170 u171 u172 u173 u174 u175 u176 u177 u178 u179 u180 u181 u182 u183 u184 u185 u186 W M gs uu hG hR hM hL hVV
                    have HG := Aside0.mk hG
                    have hrd := Kd.R_reads' hR
                    obtain ⟨A2', c2', e, hle, hCM⟩ := hM.reads (by have := HWL.out; omega)
                    injection e with e1 e2 e3
                    subst e1 e3
                    have HCK := Aside0.mk (acheckG_calls (wd.map valW) M (valW x3) A c A2 c2 W hrd.2.2 (by rw [List.length_map]; exact hrd.2.1) hCM)
                    have HR := Aside0.mk hR
                    have HMM := Aside0.mk hM
                    have HL := Aside0.mk hL
                    have HVV := Aside0.mk hVV
                    rw [List.length_map, hL] at HCK
                    obtain ⟨k0, k1, k2, k3⟩ := hG.g.cells
                    clear e2 hG hR hM hrd hle hCM hL hVV
                    cases hq : auB (wd.map valW) (valW x3) M with
                    | false =>
                      rw [chk_false hq] at HCK
                      have HRR := Aside0.mk (show getR t = (10, [], 0, []) by unfold getR; rw [if_neg (by have := HSZ.out; omega), HVV.out]; simp only; rw [if_neg (by rw [chk_false hq]; decide)])
                      clear hq
                      go_wp2_with fail
                      refine (HCK.out).mono ?_
                      rintro E W2 ⟨rfl, hb⟩
                      have HG2 := Aside0.mk ((HG.out).below hb)
                      clear hb k0 k1 k2 k3
                      obtain ⟨k0, k1, k2, k3⟩ := (HG2.out).g.cells
                      obtain ⟨f0, f1, f2, f3⟩ := (HG2.out).g.frozen
                      have HQ := Aside0.mk ((((HG2.out).g.set0 (.slice none 0 0)).set1 (.int .i64 0)).set2 (.slice none 0 0))
                      go_wp2
                      exact get_done (A1 := none) (A2 := none) (c1 := 0) (c2 := 0) (rk := []) (M := []) HRR.out ((HQ.out).hb.setCell (p := ⟨w.heap.size + 1, 0, none⟩) (Nat.le_succ _) _) (blk_far (HQ.out).ha (by show w.heap.size ≠ w.heap.size + 1; omega) _) (blk_set (HQ.out).he 0 _) ⟨rfl, by simp, fun h => absurd h (by simp)⟩ (Nat.le_refl _) ⟨rfl, by simp, fun h => absurd h (by simp)⟩ (Nat.le_refl _) _ rfl rfl
                    | true =>
                      rw [chk_true hq] at HCK
                      have HRR := Aside0.mk (show getR t = (0, wd.map valW, valW x3, M) by unfold getR; rw [if_neg (by have := HSZ.out; omega), HVV.out]; simp only; rw [if_pos (chk_true hq)])
                      clear hq
                      go_wp2_with fail
                      refine (HCK.out).mono ?_
                      rintro E W2 ⟨rfl, hb⟩
                      have HG2 := Aside0.mk ((HG.out).below hb)
                      have HR2 := Aside0.mk (Kd.R_below HR.out hb)
                      have HM2 := Aside0.mk ((HMM.out).below hb)
                      clear hb k0 k1 k2 k3
                      obtain ⟨k0, k1, k2, k3⟩ := (HG2.out).g.cells
                      obtain ⟨f0, f1, f2, f3⟩ := (HG2.out).g.frozen
                      have HQ := Aside0.mk ((((HG2.out).g.set0 (.slice A wd.length c)).set1 (.int .i64 (valW x3))).set2 (.slice A2 N c2))
                      have HR3 := Aside0.mk (fun (a : Nat) (ha : a < w.heap.size + 2) (o : Nat) (y : Value) (W3 : World) (h3 : Kd.R (Kd.int .i64) 3 W3 w.heap.size (fun k => w.heap.size + 2 ≤ k) (.slice A wd.length c) (wd.map valW)) => Kd.R_far h3 (p := ⟨a, o, none⟩) (fun k hk he => by have h0 : k = a := he; omega) y)
                      have HM3 := Aside0.mk (fun (a : Nat) (ha : a < w.heap.size + 2) (o : Nat) (y : Value) (W3 : World) (h3 : MM w.heap.size (w.heap.size + 2) W3 (.slice A2 N c2) M wd.length gs uu) => h3.far (a := a) (j := o) ha y)
                      go_wp2
                      have hr := Kd.R_reads' (HR3.out (w.heap.size + 1) (by omega) 0 (.int .i64 0) _ (HR3.out w.heap.size (by omega) 2 (.slice A2 N c2) _ (HR3.out w.heap.size (by omega) 1 (.int .i64 (valW x3)) _ (HR3.out w.heap.size (by omega) 0 (.slice A wd.length c) _ HR2.out))))
                      have hm := HM3.out (w.heap.size + 1) (by omega) 0 (.int .i64 0) _ (HM3.out w.heap.size (by omega) 2 (.slice A2 N c2) _ (HM3.out w.heap.size (by omega) 1 (.int .i64 (valW x3)) _ (HM3.out w.heap.size (by omega) 0 (.slice A wd.length c) _ HM2.out)))
                      obtain ⟨A2', c2', e, hle, hCM⟩ := hm.reads (by have := HWL.out; omega)
                      injection e with e1 e2 e3
                      subst e1 e3
                      exact get_done (A1 := A) (A2 := A2) (c1 := c) (c2 := c2) (rk := wd.map valW) (M := M) HRR.out ((HQ.out).hb.setCell (p := ⟨w.heap.size + 1, 0, none⟩) (Nat.le_succ _) _) (by rw [List.length_map, HL.out]; exact blk_far (HQ.out).ha (by show w.heap.size ≠ w.heap.size + 1; omega) _) (blk_set (HQ.out).he 0 _) hr.2.2 (by rw [List.length_map]; exact hr.2.1) hCM hle _ rfl rfl
            · have h3z : ¬ (((ws2.drop 1).length : Int) = 3) := by omega
              have HN := Aside0.mk (HV6.out (by
                unfold secOk
                split
                · rename_i h; rw [h] at h3; exact absurd rfl h3
                · rfl))
              generalize (ws2.drop 1).length = nn at *
              go_wp2
              exact get_panic (getR_bad HSZ.out HN.out) (HG5.out).g _ rfl rfl
end Go.Proofs.YtbmcigakiibncaaGreatDoor.H
namespace Go.Proofs.YtbmcigakiibncaaGreatDoor.H
open Go.RowKit Go.Proofs.YtbmcigakiibncaaGreatDoorW.PrintWords Go.Proofs.YtbmcigakiibncaaGreatDoorW.PrintLast Go.Proofs.YtbmcigakiibncaaGreatDoorW.PrintMore
open Go.Proofs.YtbmcigakiibncaaGreatDoor.Q (S28 k28)
set_option linter.unusedVariables false
set_option linter.unusedSimpArgs false
def exT : ByteArray := ⟨#[114, 97, 110, 107, 115, 32, 50, 32, 49, 32, 48, 10, 115, 116, 97, 116, 101, 115, 32, 49, 32, 115, 116, 97, 114, 116, 32, 48, 10, 48, 32, 48, 58, 32, 48, 46, 48, 32, 49, 46, 48, 10, 48, 32, 50, 58, 10]⟩
def rk0 : List Int := [2, 1, 0]
def M0 : Mv := [[[[⟨0, 0⟩, ⟨1, 0⟩]], [], [[]]]]
def D0 : Mv := [[[[⟨0, 0⟩], [⟨1, 0⟩]], [[]], []]]
def c0T : S28 := ⟨2, []⟩
def b0T : S28 := ⟨1, [⟨2, []⟩]⟩
def exD : List UInt8 := [114, 97, 110, 107, 115, 32, 50, 32, 49, 32, 48, 10, 115, 116, 97, 116, 101, 115, 32, 49, 32, 115, 116, 97, 114, 116, 32, 48, 10, 48, 32, 48, 58, 32, 48, 46, 48, 10, 48, 32, 48, 58, 32, 49, 46, 48, 10, 48, 32, 49, 58, 10]
theorem ex_get : getR exT = (0, rk0, 0, M0) := by kernel_rfl
theorem ex_dual : dualR rk0 0 M0 = (0, rk0, 0, D0) := by kernel_rfl
theorem ex_put : putR rk0 0 D0 = (exD, 0) := by kernel_rfl
theorem ex_is1 : isV rk0 0 M0 0 c0T = true ∧ stErr rk0 0 M0 0 c0T = 0 := ⟨by kernel_rfl, by kernel_rfl⟩
theorem ex_is2 : isV rk0 0 M0 0 b0T = false ∧ stErr rk0 0 M0 0 b0T = 0 := ⟨by kernel_rfl, by kernel_rfl⟩
theorem ex_is3 : isV rk0 0 D0 1 b0T = true ∧ stErr rk0 0 D0 1 b0T = 0 := ⟨by kernel_rfl, by kernel_rfl⟩
theorem get0_calls (w : World) (hm : MX w) : Calls Tryz.prog 26 #[.string exT] w fun E w' => ∃ A1 c1 A2 c2, E = .returned (.tuple #[.agg #[.slice A1 rk0.length c1, .int .i64 0, .slice A2 M0.length c2], .int .i64 0]) ∧ Kd.C (Kd.int .i64) w' A1 rk0.length rk0 ∧ rk0.length ≤ c1 ∧ Kd.C kA3 w' A2 M0.length M0 ∧ Below w.heap.size w w' := by
  refine (get_calls exT w hm).mono ?_
  intro E w' h
  unfold GetE at h
  rw [ex_get] at h
  obtain ⟨A1, c1, A2, c2, rfl, h1, h2, h3, h4, h5⟩ := h
  exact ⟨A1, c1, A2, c2, rfl, h1, h2, h3, h5⟩
theorem dual0_calls (A1 : Option Addr) (c1 : Nat) (A2 : Option Addr) (c2 : Nat) (w : World) (hr : Kd.C (Kd.int .i64) w A1 rk0.length rk0) (hc1 : rk0.length ≤ c1) (hM : Kd.C kA3 w A2 M0.length M0) (ht : TabD w) :
    Calls Tryz.prog 21 #[.agg #[.slice A1 rk0.length c1, .int .i64 0, .slice A2 M0.length c2]] w fun E w' => ∃ A1 c1 A2 c2, E = .returned (.tuple #[.agg #[.slice A1 rk0.length c1, .int .i64 0, .slice A2 D0.length c2], .int .i64 0]) ∧ Kd.C (Kd.int .i64) w' A1 rk0.length rk0 ∧ rk0.length ≤ c1 ∧ Kd.C kA3 w' A2 D0.length D0 ∧ Below w.heap.size w w' := by
  refine (adual_calls rk0 M0 0 A1 c1 A2 c2 w hr hc1 hM ht).mono ?_
  intro E w' h
  unfold DualRE at h
  rw [ex_dual] at h
  obtain ⟨v1, v2, rfl, h1, h2, h3⟩ := h
  obtain ⟨A3, c3, rfl⟩ := Kd.R_slice h1
  obtain ⟨A4, c4, rfl⟩ := Kd.R_slice h2
  have r1 := Kd.R_reads' h1
  have r2 := Kd.R_reads' h2
  exact ⟨A3, c3, A4, c4, rfl, r1.2.2, r1.2.1, r2.2.2, h3⟩
theorem C_nilT (w : World) : Kd.C k28 w none 0 [] := ⟨rfl, by simp, fun h => absurd h (by simp)⟩
theorem C_oneT {w : World} {g : Nat} {f0 : Int} (h : w.heap[g]? = some (.cells #[.int .i64 f0, .slice none 0 0] 28 (0, 0))) : Kd.C k28 w (some ⟨g, 0, none⟩) 1 [⟨f0, []⟩] := by
  refine ⟨rfl, by simp, fun _ => ⟨_, rfl, fun j p hj => ?_⟩⟩
  have hj0 : j = 0 := by
    have := (List.getElem?_eq_some_iff.1 hj).1
    simpa using this
  subst hj0
  obtain rfl : (⟨f0, []⟩ : S28) = p := by simpa using hj
  refine ⟨[.int .i64 f0, .slice none 0 0], rfl, Q.k28_mk w ⟨f0, []⟩ (A1 := none) (c1 := 0) (Nat.le_refl _) (C_nilT w), fun i u hu => ?_⟩
  rw [show (Addr.add ⟨g, 0, none⟩ (0 * k28.sz + i)) = ⟨g, i, none⟩ by rw [Nat.zero_mul, Nat.zero_add]; simp [Addr.add]; exact fun e => e.symm, blk_cell h i]
  match i, hu with
  | 0, hu => simpa using hu
  | 1, hu => simpa using hu
  | i + 2, hu => simp at hu
theorem box3_of {W : World} {b : Nat} {x y z : Value} (h : W.heap[b]? = some (.cells #[x, y, z] 25 (0, 0))) : W.cell? ⟨b, 0, none⟩ = some x ∧ W.cell? ⟨b, 1, none⟩ = some y ∧ W.cell? ⟨b, 2, none⟩ = some z := ⟨(blk_cell h 0).trans rfl, (blk_cell h 1).trans rfl, (blk_cell h 2).trans rfl⟩
theorem box2_of {W : World} {b : Nat} {x y : Value} (h : W.heap[b]? = some (.cells #[x, y] 28 (0, 0))) : W.cell? ⟨b, 0, none⟩ = some x ∧ W.cell? ⟨b, 1, none⟩ = some y := ⟨(blk_cell h 0).trans rfl, (blk_cell h 1).trans rfl⟩
theorem exD_list : (⟨exD.toArray⟩ : ByteArray).toList = exD := by rw [Lib.toList_data]
theorem is1_calls (A1 : Option Addr) (c1 : Nat) (A2 : Option Addr) (c2 : Nat) (w : World) (hr : Kd.C (Kd.int .i64) w A1 rk0.length rk0) (hc1 : rk0.length ≤ c1) (hM : Kd.C kA3 w A2 M0.length M0) (hT : Tab w) :
    Calls Tryz.prog 15 #[.agg #[.slice A1 rk0.length c1, .int .i64 0, .slice A2 M0.length c2], .int .i64 0, .agg #[.int .i64 2, .slice none 0 0]] w fun E w' => E = .returned (.tuple #[.bool true, .int .i64 0]) ∧ Below w.heap.size w w' := by
  have h := aisG_calls rk0 M0 0 0 c0T A1 c1 A2 c2 none 0 w hr hc1 hM (C_nilT w) (Nat.le_refl _) hT
  rw [ex_is1.1, ex_is1.2] at h
  exact h
theorem is2_calls (A1 : Option Addr) (c1 : Nat) (A2 : Option Addr) (c2 : Nat) (g : Nat) (w : World) (hr : Kd.C (Kd.int .i64) w A1 rk0.length rk0) (hc1 : rk0.length ≤ c1) (hM : Kd.C kA3 w A2 M0.length M0) (hg : w.heap[g]? = some (.cells #[.int .i64 2, .slice none 0 0] 28 (0, 0))) (hT : Tab w) :
    Calls Tryz.prog 15 #[.agg #[.slice A1 rk0.length c1, .int .i64 0, .slice A2 M0.length c2], .int .i64 0, .agg #[.int .i64 1, .slice (some ⟨g, 0, none⟩) 1 1]] w fun E w' => E = .returned (.tuple #[.bool false, .int .i64 0]) ∧ Below w.heap.size w w' := by
  have h := aisG_calls rk0 M0 0 0 b0T A1 c1 A2 c2 (some ⟨g, 0, none⟩) 1 w hr hc1 hM (C_oneT hg) (Nat.le_refl _) hT
  rw [ex_is2.1, ex_is2.2] at h
  exact h
theorem is3_calls (A1 : Option Addr) (c1 : Nat) (A2 : Option Addr) (c2 : Nat) (g : Nat) (w : World) (hr : Kd.C (Kd.int .i64) w A1 rk0.length rk0) (hc1 : rk0.length ≤ c1) (hM : Kd.C kA3 w A2 D0.length D0) (hg : w.heap[g]? = some (.cells #[.int .i64 2, .slice none 0 0] 28 (0, 0))) (hT : Tab w) :
    Calls Tryz.prog 15 #[.agg #[.slice A1 rk0.length c1, .int .i64 0, .slice A2 D0.length c2], .int .i64 1, .agg #[.int .i64 1, .slice (some ⟨g, 0, none⟩) 1 1]] w fun E w' => E = .returned (.tuple #[.bool true, .int .i64 0]) ∧ Below w.heap.size w w' := by
  have h := aisG_calls rk0 D0 0 1 b0T A1 c1 A2 c2 (some ⟨g, 0, none⟩) 1 w hr hc1 hM (C_oneT hg) (Nat.le_refl _) hT
  rw [ex_is3.1, ex_is3.2] at h
  exact h
theorem put0_calls (A1 : Option Addr) (c1 : Nat) (A2 : Option Addr) (c2 : Nat) (w : World) (hr : Kd.C (Kd.int .i64) w A1 rk0.length rk0) (hc1 : rk0.length ≤ c1) (hM : Kd.C kA3 w A2 D0.length D0) :
    Calls Tryz.prog 24 #[.agg #[.slice A1 rk0.length c1, .int .i64 0, .slice A2 D0.length c2]] w fun E w' => E = .returned (.tuple #[.string ⟨exD.toArray⟩, .int .i64 0]) ∧ Below w.heap.size w w' := by
  refine (put_calls rk0 D0 0 A1 c1 A2 c2 w hr hc1 hM).mono ?_
  intro E w' h
  unfold PutE at h
  rw [ex_put] at h
  exact h
set_option maxHeartbeats 16000000 in
set_option maxRecDepth 100000 in
theorem alive_calls (w : World) (hm : MX w) (ht : TabD w) : Calls Tryz.prog 18 #[] w fun E w' => E = .returned (.bool true) ∧ Below w.heap.size w w' := by
  have HG := Aside0.mk (get0_calls w hm)
  have HT := Aside0.mk ht
  unfold exT at HG
  clear hm ht
  go_enter Tryz.func18, Tryz.ntmps18
  go_wp2_with fail
  refine (HG.out).mono ?_
  rintro E W1 ⟨A1, c1, A2, c2, rfl, hr1, hc1, hM1, hb1⟩
  have HB1 := Aside0.mk hb1
  have HR1 := Aside0.mk hr1
  have HC1 := Aside0.mk hc1
  have HM1 := Aside0.mk hM1
  have hba := below_alloc (Below.refl W1.heap.size W1) (.cells #[.slice A1 rk0.length c1, .int .i64 0, .slice A2 M0.length c2] 25)
  have HX1 := Aside0.mk (blk_new W1 (.cells #[.slice A1 rk0.length c1, .int .i64 0, .slice A2 M0.length c2] 25))
  have HB2 := Aside0.mk (below_then hb1 hb1.size hba)
  have HR2 := Aside0.mk (Kd.C_below hr1 hba)
  have HM2 := Aside0.mk (Kd.C_below hM1 hba)
  clear hr1 hc1 hM1 hb1 hba HG HR1 HM1
  go_upto_region 2 with (fail)
  generalize W1.alloc (.cells #[.slice A1 rk0.length c1, .int .i64 0, .slice A2 M0.length c2] 25) = W2 at *
  generalize W1.heap.size = b1 at *
  obtain ⟨k0, k1, k2⟩ := box3_of HX1.out
  have HDU := Aside0.mk (dual0_calls A1 c1 A2 c2 W2 HR2.out HC1.out HM2.out ((HT.out).below HB2.out))
  go_wp2_with fail
  refine (HDU.out).mono ?_
  rintro E W3 ⟨A3, c3, A4, c4, rfl, hr3, hc3, hM3, hb3⟩
  have hba := below_alloc (Below.refl W3.heap.size W3) (.cells #[.slice A3 rk0.length c3, .int .i64 0, .slice A4 D0.length c4] 25)
  have hb4 := below_then hb3 hb3.size hba
  have HB4 := Aside0.mk (below_then HB2.out (HB2.out).size hb4)
  have HX1' := Aside0.mk (blk_below HX1.out hb4)
  have HR4 := Aside0.mk (Kd.C_below HR2.out hb4)
  have HM4 := Aside0.mk (Kd.C_below HM2.out hb4)
  have HX3 := Aside0.mk (blk_new W3 (.cells #[.slice A3 rk0.length c3, .int .i64 0, .slice A4 D0.length c4] 25))
  have HC3 := Aside0.mk hc3
  have HS4 := Aside0.mk (Kd.C_below hr3 hba)
  have HN4 := Aside0.mk (Kd.C_below hM3 hba)
  clear hr3 hc3 hM3 hb3 hba hb4 k0 k1 k2 HDU HX1 HR2 HM2 HB2
  go_upto_region 3 with (fail)
  generalize W3.alloc (.cells #[.slice A3 rk0.length c3, .int .i64 0, .slice A4 D0.length c4] 25) = W4 at *
  generalize W3.heap.size = b3 at *
  have hba := below_alloc (below_alloc (below_alloc (Below.refl W4.heap.size W4) (.cells #[.int .i64 2, .slice none 0 0] 28)) (.cells #[.int .i64 2, .slice none 0 0] 28)) (.cells #[.int .i64 1, .slice (some ⟨W4.heap.size + 1, 0, none⟩) 1 1] 28)
  have h5 := blk_alloc (blk_alloc (blk_new W4 (.cells #[.int .i64 2, .slice none 0 0] 28)) (.cells #[.int .i64 2, .slice none 0 0] 28)) (.cells #[.int .i64 1, .slice (some ⟨W4.heap.size + 1, 0, none⟩) 1 1] 28)
  have h6 := blk_alloc (blk_at2 W4 (.cells #[.int .i64 2, .slice none 0 0] 28) (.cells #[.int .i64 2, .slice none 0 0] 28)) (.cells #[.int .i64 1, .slice (some ⟨W4.heap.size + 1, 0, none⟩) 1 1] 28)
  have h7 := blk_new ((W4.alloc (.cells #[.int .i64 2, .slice none 0 0] 28)).alloc (.cells #[.int .i64 2, .slice none 0 0] 28)) (.cells #[.int .i64 1, .slice (some ⟨W4.heap.size + 1, 0, none⟩) 1 1] 28)
  have k5 := box2_of (blk_new W4 (.cells #[.int .i64 2, .slice none 0 0] 28))
  obtain ⟨k50, k51⟩ := k5
  have HB5 := Aside0.mk (below_then HB4.out (HB4.out).size hba)
  have HX5 := Aside0.mk (blk_below HX1'.out hba)
  have HY5 := Aside0.mk (blk_below HX3.out hba)
  have HR5 := Aside0.mk (Kd.C_below HR4.out hba)
  have HM5 := Aside0.mk (Kd.C_below HM4.out hba)
  have HS5 := Aside0.mk (Kd.C_below HS4.out hba)
  have HN5 := Aside0.mk (Kd.C_below HN4.out hba)
  have HT5 := Aside0.mk h5
  have HT6 := Aside0.mk h6
  rw [show ((W4.alloc (.cells #[.int .i64 2, .slice none 0 0] 28)).alloc (.cells #[.int .i64 2, .slice none 0 0] 28)).heap.size = W4.heap.size + 1 + 1 by simp] at h7
  have HT7 := Aside0.mk h7
  clear hba h5 h6 h7
  go_upto_region 5 with (fail)
  clear k50 k51
  generalize (((W4.alloc (.cells #[.int .i64 2, .slice none 0 0] 28)).alloc (.cells #[.int .i64 2, .slice none 0 0] 28)).alloc (.cells #[.int .i64 1, .slice (some ⟨W4.heap.size + 1, 0, none⟩) 1 1] 28)) = W5 at *
  generalize W4.heap.size = g at *
  have HI1 := Aside0.mk (fun (W : World) (hb : Below W5.heap.size W5 W) => is1_calls A1 c1 A2 c2 W (Kd.C_below HR5.out hb) HC1.out (Kd.C_below HM5.out hb) ((HT.out).tab.below (below_then HB5.out (HB5.out).size hb)))
  have HI2 := Aside0.mk (fun (W : World) (hb : Below W5.heap.size W5 W) => is2_calls A1 c1 A2 c2 (g + 1) W (Kd.C_below HR5.out hb) HC1.out (Kd.C_below HM5.out hb) (blk_below HT6.out hb) ((HT.out).tab.below (below_then HB5.out (HB5.out).size hb)))
  have HI3 := Aside0.mk (fun (W : World) (hb : Below W5.heap.size W5 W) => is3_calls A3 c3 A4 c4 (g + 1) W (Kd.C_below HS5.out hb) HC3.out (Kd.C_below HN5.out hb) (blk_below HT6.out hb) ((HT.out).tab.below (below_then HB5.out (HB5.out).size hb)))
  have HPU := Aside0.mk (fun (W : World) (hb : Below W5.heap.size W5 W) => put0_calls A3 c3 A4 c4 W (Kd.C_below HS5.out hb) HC3.out (Kd.C_below HN5.out hb))
  obtain ⟨k10, k11, k12⟩ := box3_of HX5.out
  obtain ⟨k50, k51⟩ := box2_of HT5.out
  go_wp2_with fail
  refine (HI1.out _ (Below.refl _ _)).mono ?_
  rintro E W6 ⟨rfl, hb6⟩
  have HB6 := Aside0.mk hb6
  clear k10 k11 k12 k50 k51 hb6
  obtain ⟨k10, k11, k12⟩ := box3_of (blk_below HX5.out HB6.out)
  obtain ⟨k60, k61⟩ := box2_of (blk_below HT7.out HB6.out)
  go_wp2_with fail
  refine (HI2.out _ HB6.out).mono ?_
  rintro E W7 ⟨rfl, hb7⟩
  have HB7 := Aside0.mk (below_then HB6.out (HB6.out).size hb7)
  clear k10 k11 k12 k60 k61 hb7
  obtain ⟨k10, k11, k12⟩ := box3_of (blk_below HY5.out HB7.out)
  obtain ⟨k60, k61⟩ := box2_of (blk_below HT7.out HB7.out)
  go_wp2_with fail
  refine (HI3.out _ HB7.out).mono ?_
  rintro E W8 ⟨rfl, hb8⟩
  have HB8 := Aside0.mk (below_then HB7.out (HB7.out).size hb8)
  clear k10 k11 k12 k60 k61 hb8
  obtain ⟨k10, k11, k12⟩ := box3_of (blk_below HY5.out HB8.out)
  go_wp2_with fail
  refine (HPU.out _ HB8.out).mono ?_
  rintro E W9 ⟨rfl, hb9⟩
  have HB9 := Aside0.mk (below_then HB5.out (HB5.out).size (below_then HB8.out (HB8.out).size hb9))
  have hex := exD_list
  unfold exD at hex ⊢
  clear k10 k11 k12 hb9
  go_wp2
  go_ret
  exact ⟨rfl, HB9.out⟩
end Go.Proofs.YtbmcigakiibncaaGreatDoor.H
namespace Go.Proofs.YtbmcigakiibncaaGreatDoor.H
open Go.RowKit Go.Proofs.YtbmcigakiibncaaGreatDoorW.PrintWords Go.Proofs.YtbmcigakiibncaaGreatDoorW.PrintLast Go.Proofs.YtbmcigakiibncaaGreatDoorW.PrintMore
set_option linter.unusedVariables false
set_option linter.unusedSimpArgs false
structure TX2 (w : World) (x y z x' y' z' : Value) (W : World) : Prop where
  hb : Below w.heap.size w W
  box : W.heap[w.heap.size]? = some (.cells #[x, y, z] 25 (0, 0))
  box' : W.heap[w.heap.size + 1]? = some (.cells #[x', y', z'] 25 (0, 0))
theorem TX2.below {w W W1 : World} {x y z x' y' z' : Value} (h : TX2 w x y z x' y' z' W) (hb : Below W.heap.size W W1) : TX2 w x y z x' y' z' W1 :=
  ⟨below_then h.hb h.hb.size hb, blk_below h.box hb, blk_below h.box' hb⟩
theorem TX2.start (w : World) (x y z x' y' z' : Value) : TX2 w x y z x' y' z' ((w.alloc (.cells #[x, y, z] 25)).alloc (.cells #[x', y', z'] 25)) :=
  ⟨below_alloc (below_alloc (Below.refl w.heap.size w) _) _, blk_alloc (blk_new w _) _, blk_at2 w _ _⟩
end Go.Proofs.YtbmcigakiibncaaGreatDoor.H
namespace Go.Proofs.YtbmcigakiibncaaGreatDoor.H
open Go.RowKit Go.Proofs.YtbmcigakiibncaaGreatDoorW.PrintWords Go.Proofs.YtbmcigakiibncaaGreatDoorW.PrintLast Go.Proofs.YtbmcigakiibncaaGreatDoorW.PrintMore
set_option linter.unusedVariables false
set_option linter.unusedSimpArgs false
theorem sameRanks_calls (A : Option Addr) (c : Nat) (a : List Int) (B : Option Addr) (d : Nat) (b : List Int) (w : World) (hA : Kd.C (Kd.int .i64) w A a.length a) (hc : a.length ≤ c) (hB : Kd.C (Kd.int .i64) w B b.length b) (hd : b.length ≤ d) :
    Calls Tryz.prog 67 #[.slice A a.length c, .slice B b.length d] w fun e w' => e = .returned (.bool (eqI a b)) ∧ Below w.heap.size w w' := by
  obtain ⟨k, hk⟩ := (sameRanks_ev a b hA.2.1).rounds
  exact (Q.virgationref09_SameRanks.calls k A c a B d b _ w hA hc hB hd hk).mono fun e w' h => ⟨h.1, by first | exact h.2 | exact h.2.below⟩
theorem eqMoves_calls (A : Option Addr) (c : Nat) (a : List (List Nd)) (B : Option Addr) (d : Nat) (b : List (List Nd)) (w : World) (hA : Kd.C kA1 w A a.length a) (hc : a.length ≤ c) (hB : Kd.C kA1 w B b.length b) (hd : b.length ≤ d) :
    Calls Tryz.prog 68 #[.slice A a.length c, .slice B b.length d] w fun e w' => e = .returned (.bool (eq2 a b)) ∧ Below w.heap.size w w' := by
  obtain ⟨k, hk⟩ := (eqMoves_ev a b hA.2.1 (fun x hx => by obtain ⟨A1, h1⟩ := C_kids hA hx; exact h1.2.1)).rounds
  exact (Q.virgationref09_EqualMoves.calls k A c a B d b _ w hA hc hB hd hk).mono fun e w' h => ⟨h.1, by first | exact h.2 | exact h.2.below⟩
set_option maxHeartbeats 16000000 in
set_option maxRecDepth 100000 in
theorem rsame_calls (rk : List Int) (M : Mv) (st : Int) (A1 : Option Addr) (c1 : Nat) (A2 : Option Addr) (c2 : Nat) (rk' : List Int) (M' : Mv) (st' : Int) (B1 : Option Addr) (d1 : Nat) (B2 : Option Addr) (d2 : Nat) (w : World)
    (hr : Kd.C (Kd.int .i64) w A1 rk.length rk) (hc1 : rk.length ≤ c1) (hM : Kd.C kA3 w A2 M.length M) (hc2 : M.length ≤ c2)
    (hr' : Kd.C (Kd.int .i64) w B1 rk'.length rk') (hd1 : rk'.length ≤ d1) (hM' : Kd.C kA3 w B2 M'.length M') (hd2 : M'.length ≤ d2) :
    Calls Tryz.prog 28 #[.agg #[.slice A1 rk.length c1, .int .i64 st, .slice A2 M.length c2], .agg #[.slice B1 rk'.length d1, .int .i64 st', .slice B2 M'.length d2]] w fun e w' => e = .returned (.bool (sameB rk st M rk' st' M')) ∧ Below w.heap.size w w' := by
  have HC1 := Aside0.mk fun W (hW : Below w.heap.size w W) => isA_calls rk M st A1 c1 A2 c2 W (Kd.C_below hr hW) hc1 (Kd.C_below hM hW) hc2
  have HC2 := Aside0.mk fun W (hW : Below w.heap.size w W) => isA_calls rk' M' st' B1 d1 B2 d2 W (Kd.C_below hr' hW) hd1 (Kd.C_below hM' hW) hd2
  have HE := Aside0.mk fun W (hW : Below w.heap.size w W) => sameRanks_calls A1 c1 rk B1 d1 rk' W (Kd.C_below hr hW) hc1 (Kd.C_below hr' hW) hd1
  have HM := Aside0.mk hM
  have HM' := Aside0.mk hM'
  have HS := Aside0.mk (TX2.start w (.slice A1 rk.length c1) (.int .i64 st) (.slice A2 M.length c2) (.slice B1 rk'.length d1) (.int .i64 st') (.slice B2 M'.length d2))
  have HV := Aside0.mk (show sameB rk st M rk' st' M' = (auB rk st M && (auB rk' st' M' && (eqI rk rk' && (decide (st = st') && eq4 M M')))) from rfl)
  clear hr hc1 hM hc2 hr' hd1 hM' hd2
  generalize sameB rk st M rk' st' M' = R at *
  go_enter Tryz.func28, Tryz.ntmps28
  go_upto_region 1 with (fail)
  generalize ((w.alloc (.cells #[.slice A1 rk.length c1, .int .i64 st, .slice A2 M.length c2] 25)).alloc (.cells #[.slice B1 rk'.length d1, .int .i64 st', .slice B2 M'.length d2] 25)) = W1 at *
  have k0 : W1.cell? ⟨w.heap.size, 0, none⟩ = some (.slice A1 rk.length c1) := (blk_cell (HS.out).box 0).trans rfl
  have k1 : W1.cell? ⟨w.heap.size, 1, none⟩ = some (.int .i64 st) := (blk_cell (HS.out).box 1).trans rfl
  have k2 : W1.cell? ⟨w.heap.size, 2, none⟩ = some (.slice A2 M.length c2) := (blk_cell (HS.out).box 2).trans rfl
  go_wp2_with fail
  refine (HC1.out _ (HS.out).hb).mono ?_
  rintro E W2 ⟨rfl, hb⟩
  have HS2 := Aside0.mk ((HS.out).below hb)
  clear hb HS k0 k1 k2 HC1
  cases h1 : auB rk st M with
  | false =>
    have HP := Aside0.mk (show R = false by rw [HV.out, h1]; rfl)
    clear h1 HV
    go_wp2
    go_ret
    exact ⟨by rw [HP.out]; rfl, (HS2.out).hb⟩
  | true =>
  have HO1 := Aside0.mk (auOk h1)
  rw [h1, Bool.true_and] at HV
  clear h1
  have k0 : W2.cell? ⟨w.heap.size + 1, 0, none⟩ = some (.slice B1 rk'.length d1) := (blk_cell (HS2.out).box' 0).trans rfl
  have k1 : W2.cell? ⟨w.heap.size + 1, 1, none⟩ = some (.int .i64 st') := (blk_cell (HS2.out).box' 1).trans rfl
  have k2 : W2.cell? ⟨w.heap.size + 1, 2, none⟩ = some (.slice B2 M'.length d2) := (blk_cell (HS2.out).box' 2).trans rfl
  go_wp2_with fail
  refine (HC2.out _ (HS2.out).hb).mono ?_
  rintro E W3 ⟨rfl, hb⟩
  have HS3 := Aside0.mk ((HS2.out).below hb)
  clear hb HS2 k0 k1 k2 HC2
  cases h2 : auB rk' st' M' with
  | false =>
    have HP := Aside0.mk (show R = false by rw [HV.out, h2]; rfl)
    clear h2 HV
    go_wp2
    go_ret
    exact ⟨by rw [HP.out]; rfl, (HS3.out).hb⟩
  | true =>
  have HO2 := Aside0.mk (auOk h2)
  rw [h2, Bool.true_and] at HV
  clear h2
  have k0 : W3.cell? ⟨w.heap.size, 0, none⟩ = some (.slice A1 rk.length c1) := (blk_cell (HS3.out).box 0).trans rfl
  have k4 : W3.cell? ⟨w.heap.size + 1, 0, none⟩ = some (.slice B1 rk'.length d1) := (blk_cell (HS3.out).box' 0).trans rfl
  go_wp2_with fail
  refine (HE.out _ (HS3.out).hb).mono ?_
  rintro E W4 ⟨rfl, hb⟩
  have HS4 := Aside0.mk ((HS3.out).below hb)
  clear hb HS3 k0 k4 HE
  cases h4 : eqI rk rk' with
  | false =>
    have HP := Aside0.mk (show R = false by rw [HV.out, h4]; rfl)
    clear HV
    go_wp2
    go_ret
    exact ⟨by rw [HP.out]; rfl, (HS4.out).hb⟩
  | true =>
  have HRE := Aside0.mk ((eqI_iff _ _).1 h4)
  rw [h4, Bool.true_and] at HV
  clear h4
  have k1 : W4.cell? ⟨w.heap.size, 1, none⟩ = some (.int .i64 st) := (blk_cell (HS4.out).box 1).trans rfl
  have k3 : W4.cell? ⟨w.heap.size + 1, 1, none⟩ = some (.int .i64 st') := (blk_cell (HS4.out).box' 1).trans rfl
  cases h3 : (st != st') with
  | true =>
    have HP := Aside0.mk (show R = false by rw [HV.out, show decide (st = st') = false by simpa using h3]; simp)
    clear HV
    go_wp2
    go_ret
    exact ⟨by rw [HP.out]; rfl, (HS4.out).hb⟩
  | false =>
  have h3' : decide (st = st') = true := by simpa using h3
  rw [h3', Bool.true_and] at HV
  have k2 : W4.cell? ⟨w.heap.size, 2, none⟩ = some (.slice A2 M.length c2) := (blk_cell (HS4.out).box 2).trans rfl
  have k5 : W4.cell? ⟨w.heap.size + 1, 2, none⟩ = some (.slice B2 M'.length d2) := (blk_cell (HS4.out).box' 2).trans rfl
  have k0 : W4.cell? ⟨w.heap.size, 0, none⟩ = some (.slice A1 rk.length c1) := (blk_cell (HS4.out).box 0).trans rfl
  cases h5 : ((M.length : Int) != (M'.length : Int)) with
  | true =>
    have HP := Aside0.mk (show R = false by
      rw [HV.out]
      exact eqF_len (by have : ¬ (M.length : Int) = (M'.length : Int) := by simpa using h5
                        omega))
    clear HV
    go_wp2
    go_ret
    exact ⟨by rw [HP.out]; rfl, (HS4.out).hb⟩
  | false =>
  have HLM := Aside0.mk (show M.length = M'.length by have : (M.length : Int) = (M'.length : Int) := by simpa using h5
                                                      omega)
  have HN6 := Aside0.mk (HO1.out).nM
  have HN24 := Aside0.mk (HO1.out).nrk
  go_wp2
  clear k0 k1 k2 k3 k5 h3 h3' h5
  go_loopg [42] M.length (fun gg v42 wi => ∃ q : Nat, q ≤ M.length ∧ M.length - q ≤ gg ∧ v42 = .int .i64 q ∧ Aside0 (TX2 w (.slice A1 rk.length c1) (.int .i64 st) (.slice A2 M.length c2) (.slice B1 rk'.length d1) (.int .i64 st') (.slice B2 M'.length d2) wi) ∧ Aside0 (∀ i, i < q → eq3 (M.getD i []) (M'.getD i []) = true))
  case atStart => exact ⟨0, Nat.zero_le _, Nat.le_refl _, rfl, HS4, ⟨fun i hi => absurd hi (Nat.not_lt_zero _)⟩⟩
  case round =>
    clear HS4
    obtain ⟨q, hq, hgg, rfl, HS, HP⟩ := hrel
    by_cases hlt : q < M.length
    · have hltz : (q : Int) < (M.length : Int) := by omega
      have HLT := Aside0.mk hlt
      have HKQ := Aside0.mk (show wrap64 ((q : Int) + 1) = ((q + 1 : Nat) : Int) by rw [wr_id (by omega) (by have := HN6.out; omega)]; rfl)
      obtain ⟨ad, A3, c3, e, hk, hl3, hC3⟩ := at_sl HM.out q hlt
      subst e
      obtain ⟨bd, B3, d3, e, hkb, hl4, hC4⟩ := at_sl HM'.out q (by have := HLM.out; omega)
      subst e
      have HK := Aside0.mk hk
      have HKB := Aside0.mk hkb
      have HC3 := Aside0.mk hC3
      have HC4 := Aside0.mk hC4
      have HF := Aside0.mk (show eq3 (M.getD q []) (M'.getD q []) = false → R = false from fun h => by rw [HV.out]; exact eqF_at hlt h)
      have HT := Aside0.mk (show eq3 (M.getD q []) (M'.getD q []) = true → ∀ i, i < q + 1 → eq3 (M.getD i []) (M'.getD i []) = true from fun h i hi => by
        rcases Nat.lt_or_ge i q with h2 | h2
        · exact HP.out i h2
        · rw [show i = q by omega]; exact h)
      have HR1 := Aside0.mk ((HO1.out).row _ (getD_memD [] hlt))
      have HR2 := Aside0.mk ((HO2.out).row (M'.getD q []) (getD_memD [] (by have := HLM.out; omega)))
      have k0 : wr.cell? ⟨w.heap.size, 0, none⟩ = some (.slice A1 rk.length c1) := (blk_cell (HS.out).box 0).trans rfl
      clear hk hkb hC3 hC4 hl3 hl4 HP hlt hq
      generalize M.getD q [] = row at *
      generalize M'.getD q [] = row' at *
      go_wp2
      clear k0
      go_loopg [48] rk.length (fun gg v48 wi => ∃ f : Nat, f ≤ rk.length ∧ rk.length - f ≤ gg ∧ v48 = .int .i64 f ∧ Aside0 (TX2 w (.slice A1 rk.length c1) (.int .i64 st) (.slice (some ad) M.length c2) (.slice B1 rk'.length d1) (.int .i64 st') (.slice (some bd) M'.length d2) wi) ∧ Aside0 (∀ i, i < f → eq2 (row.getD i []) (row'.getD i []) = true))
      case atStart => exact ⟨0, Nat.zero_le _, Nat.le_refl _, rfl, HS, ⟨fun i hi => absurd hi (Nat.not_lt_zero _)⟩⟩
      case round =>
        clear HS
        obtain ⟨f, hf, hgg, rfl, HS, HP⟩ := hrel
        by_cases hlt : f < rk.length
        · have hltf : (f : Int) < (rk.length : Int) := by omega
          have hltr : (f : Int) < (row.length : Int) := by have := HR1.out; omega
          have hltr' : (f : Int) < (row'.length : Int) := by have := HR2.out; have := congrArg List.length HRE.out; omega
          have hltm' : (q : Int) < (M'.length : Int) := by have := HLM.out; omega
          have HLF := Aside0.mk hlt
          have HKF := Aside0.mk (show wrap64 ((f : Int) + 1) = ((f + 1 : Nat) : Int) by rw [wr_id (by omega) (by have := HN24.out; omega)]; rfl)
          obtain ⟨ad4, A4, c4, e, hk4, hl4, hC4⟩ := at_sl HC3.out f (by have := HR1.out; omega)
          subst e
          obtain ⟨bd4, B4, d4, e, hkb4, hl5, hC5⟩ := at_sl HC4.out f (by omega)
          subst e
          have HF4 := Aside0.mk (show eq2 (row.getD f []) (row'.getD f []) = false → R = false from fun h => HF.out (eqF_at (by have := HR1.out; omega) h))
          have HT4 := Aside0.mk (show eq2 (row.getD f []) (row'.getD f []) = true → ∀ i, i < f + 1 → eq2 (row.getD i []) (row'.getD i []) = true from fun h i hi => by
            rcases Nat.lt_or_ge i f with h2 | h2
            · exact HP.out i h2
            · rw [show i = f by omega]; exact h)
          have HC := Aside0.mk fun W (hW : Below w.heap.size w W) => eqMoves_calls A4 c4 (row.getD f []) B4 d4 (row'.getD f []) W (Kd.C_below hC4 hW) hl4 (Kd.C_below hC5 hW) hl5
          have HK4 := Aside0.mk hk4
          have HKB4 := Aside0.mk hkb4
          clear hk4 hkb4 hC4 hC5 hl4 hl5 HP hlt hf
          generalize row.getD f [] = al at *
          generalize row'.getD f [] = al' at *
          generalize eq2 al al' = v at *
          have HCE := Aside0.mk (fun (W : World) (h : TX2 w (.slice A1 rk.length c1) (.int .i64 st) (.slice (some ad) M.length c2) (.slice B1 rk'.length d1) (.int .i64 st') (.slice (some bd) M'.length d2) W) =>
            (show (W.cell? ⟨w.heap.size, 2, none⟩ = some (.slice (some ad) M.length c2) ∧ W.cell? ⟨w.heap.size + 1, 2, none⟩ = some (.slice (some bd) M'.length d2)) ∧ (W.cell? (ad.add q) = some (.slice (some ad4) row.length c3) ∧ W.cell? (bd.add q) = some (.slice (some bd4) row'.length d3)) ∧ (W.cell? (ad4.add f) = some (.slice A4 al.length c4) ∧ W.cell? (bd4.add f) = some (.slice B4 al'.length d4)) from
              ⟨⟨(blk_cell h.box 2).trans rfl, (blk_cell h.box' 2).trans rfl⟩, ⟨pw_cell_below h.hb HK.out, pw_cell_below h.hb HKB.out⟩, pw_cell_below h.hb HK4.out, pw_cell_below h.hb HKB4.out⟩))
          go_upto_region 9 with (fail)
          have HS0 := Aside0.mk ((HS.out).below (below_drew (Below.refl _ _)))
          cases v with
          | false =>
            have HVV := Aside0.mk (HF4.out rfl)
            go_region_held3 (fun W => (W.cell? ⟨w.heap.size, 2, none⟩ = some (.slice (some ad) M.length c2) ∧ W.cell? ⟨w.heap.size + 1, 2, none⟩ = some (.slice (some bd) M'.length d2)) ∧ (W.cell? (ad.add q) = some (.slice (some ad4) row.length c3) ∧ W.cell? (bd.add q) = some (.slice (some bd4) row'.length d3)) ∧ (W.cell? (ad4.add f) = some (.slice A4 al.length c4) ∧ W.cell? (bd4.add f) = some (.slice B4 al'.length d4)))
              (first | exact HCE.out _ HSa.out | exact HCE.out _ HS0.out | exact HCE.out _ HS.out | fail)
              (first | (go_at_call 68; (with_reducible refine (HC.out _ (HS0.out).hb).mono ?_); rintro E w2 ⟨rfl, hb⟩; have HSa := Aside0.mk ((HS0.out).below hb); clear hb) | fail)
            go_wp2
            go_ret
            exact ⟨by rw [HVV.out]; rfl, (HSa.out).hb⟩
          | true =>
            have HVV := Aside0.mk (HT4.out rfl)
            go_region_held3 (fun W => (W.cell? ⟨w.heap.size, 2, none⟩ = some (.slice (some ad) M.length c2) ∧ W.cell? ⟨w.heap.size + 1, 2, none⟩ = some (.slice (some bd) M'.length d2)) ∧ (W.cell? (ad.add q) = some (.slice (some ad4) row.length c3) ∧ W.cell? (bd.add q) = some (.slice (some bd4) row'.length d3)) ∧ (W.cell? (ad4.add f) = some (.slice A4 al.length c4) ∧ W.cell? (bd4.add f) = some (.slice B4 al'.length d4)))
              (first | exact HCE.out _ HSa.out | exact HCE.out _ HS0.out | exact HCE.out _ HS.out | fail)
              (first | (go_at_call 68; (with_reducible refine (HC.out _ (HS0.out).hb).mono ?_); rintro E w2 ⟨rfl, hb⟩; have HSa := Aside0.mk ((HS0.out).below hb); clear hb) | fail)
            go_wp2
            go_roundg (rk.length - (f + 1))
            case measure => have := HLF.out; omega
            case rel => exact ⟨f + 1, HLF.out, Nat.le_refl _, by rw [HKF.out], HSa, HVV⟩
        · obtain rfl : f = rk.length := by omega
          have HT6 := Aside0.mk (HT.out (eqF_all (by have := HR1.out; have := HR2.out; have := congrArg List.length HRE.out; omega) (fun i hi => HP.out i (by have := HR1.out; omega))))
          clear HP hlt hf hgg
          go_wp2
          go_roundg (M.length - (q + 1))
          case measure => have := HLT.out; omega
          case rel => exact ⟨q + 1, HLT.out, Nat.le_refl _, by rw [HKQ.out], HS, HT6⟩
    · obtain rfl : q = M.length := by omega
      have HVV := Aside0.mk (show R = true by rw [HV.out]; exact eqF_all HLM.out HP.out)
      clear HP hlt hq hgg
      go_wp2
      go_ret
      exact ⟨by rw [HVV.out]; rfl, (HS.out).hb⟩
end Go.Proofs.YtbmcigakiibncaaGreatDoor.H
namespace Go.Proofs.YtbmcigakiibncaaGreatDoor.H
open Go.RowKit Go.Proofs.YtbmcigakiibncaaGreatDoorW.PrintWords Go.Proofs.YtbmcigakiibncaaGreatDoorW.PrintLast Go.Proofs.YtbmcigakiibncaaGreatDoorW.PrintMore
set_option linter.unusedVariables false
set_option linter.unusedSimpArgs false
theorem TX2.cells {w W : World} {x y z x' y' z' : Value} (h : TX2 w x y z x' y' z' W) : (W.cell? ⟨w.heap.size, 0, none⟩ = some x ∧ W.cell? ⟨w.heap.size, 1, none⟩ = some y ∧ W.cell? ⟨w.heap.size, 2, none⟩ = some z) ∧ (W.cell? ⟨w.heap.size + 1, 0, none⟩ = some x' ∧ W.cell? ⟨w.heap.size + 1, 1, none⟩ = some y' ∧ W.cell? ⟨w.heap.size + 1, 2, none⟩ = some z') :=
  ⟨⟨(blk_cell h.box 0).trans rfl, (blk_cell h.box 1).trans rfl, (blk_cell h.box 2).trans rfl⟩, (blk_cell h.box' 0).trans rfl, (blk_cell h.box' 1).trans rfl, (blk_cell h.box' 2).trans rfl⟩
end Go.Proofs.YtbmcigakiibncaaGreatDoor.H
namespace Go.Proofs.YtbmcigakiibncaaGreatDoor.H
open Go.RowKit Go.Proofs.YtbmcigakiibncaaGreatDoorW.PrintWords Go.Proofs.YtbmcigakiibncaaGreatDoorW.PrintLast Go.Proofs.YtbmcigakiibncaaGreatDoorW.PrintMore
set_option linter.unusedVariables false
set_option linter.unusedSimpArgs false
theorem TX.cells {w W : World} {x y z : Value} (h : TX w x y z W) : W.cell? ⟨w.heap.size, 0, none⟩ = some x ∧ W.cell? ⟨w.heap.size, 1, none⟩ = some y ∧ W.cell? ⟨w.heap.size, 2, none⟩ = some z :=
  ⟨(blk_cell h.box 0).trans rfl, (blk_cell h.box 1).trans rfl, (blk_cell h.box 2).trans rfl⟩
theorem sameB_self (rk : List Int) (st : Int) (M : Mv) : sameB rk st M rk st M = auB rk st M := by
  unfold sameB
  rw [(eqI_iff rk rk).2 rfl, (eq4_iff M M).2 rfl]
  cases auB rk st M <;> simp
end Go.Proofs.YtbmcigakiibncaaGreatDoor.H
namespace Go.Proofs.YtbmcigakiibncaaGreatDoor.H
open Go.RowKit Go.Proofs.YtbmcigakiibncaaGreatDoorW.PrintWords Go.Proofs.YtbmcigakiibncaaGreatDoorW.PrintLast Go.Proofs.YtbmcigakiibncaaGreatDoorW.PrintMore
open Go.Proofs.YtbmcigakiibncaaGreatDoor.Q (S28 k28 z28 rd_T28 at_T28)
set_option linter.unusedVariables false
set_option linter.unusedSimpArgs false
theorem AT2.cells {w W : World} {x y z s v : Value} (h : AT2 w W #[x, y, z] #[s, v]) : (W.cell? ⟨w.heap.size, 0, none⟩ = some x ∧ W.cell? ⟨w.heap.size, 1, none⟩ = some y ∧ W.cell? ⟨w.heap.size, 2, none⟩ = some z) ∧ (W.cell? ⟨w.heap.size + 1, 0, none⟩ = some s ∧ W.cell? ⟨w.heap.size + 1, 1, none⟩ = some v) :=
  ⟨box3_cells h.h1, box2_cells h.h2⟩
end Go.Proofs.YtbmcigakiibncaaGreatDoor.H
namespace Go.Proofs.YtbmcigakiibncaaGreatDoor.H
open Go.RowKit Go.Proofs.YtbmcigakiibncaaGreatDoorW.PrintWords Go.Proofs.YtbmcigakiibncaaGreatDoorW.PrintLast Go.Proofs.YtbmcigakiibncaaGreatDoorW.PrintMore
open Go.Proofs.YtbmcigakiibncaaGreatDoor.Q (S28 k28 z28 rd_T28 at_T28)
set_option linter.unusedVariables false
set_option linter.unusedSimpArgs false
theorem maskF_bit (i : Nat) : ∀ (l : List Nd) (m : Nat), (maskF m l).testBit i = (m.testBit i || l.any fun x => spotN x == i)
  | [], m => by simp [maskF]
  | x :: r, m => by
    show (maskF (m ||| 2 ^ spotN x) r).testBit i = _
    rw [maskF_bit i r, Nat.testBit_or, Nat.testBit_two_pow, List.any_cons, Bool.or_assoc]
    rfl
theorem maskN_bit {i : Nat} {l : List Nd} : (maskN l).testBit i = true ↔ ∃ x ∈ l, spotN x = i := by
  unfold maskN
  rw [maskF_bit, Nat.zero_testBit, Bool.false_or, List.any_eq_true]
  constructor
  · rintro ⟨x, hx, h⟩; exact ⟨x, hx, beq_iff_eq.1 h⟩
  · rintro ⟨x, hx, h⟩; exact ⟨x, hx, beq_iff_eq.2 h⟩
theorem needI_spot {x : Nd} (h : InN x) : needI (spotN x) = x := by
  obtain ⟨a, b⟩ := x
  unfold InN at h
  unfold needI spotN
  simp only at h ⊢
  have e1 : (((a * 6 + b).toNat / 6 : Nat) : Int) = a := by omega
  have e2 : (((a * 6 + b).toNat % 6 : Nat) : Int) = b := by omega
  rw [e1, e2]
theorem spot_needI (i : Nat) : spotN (needI i) = i := by
  unfold needI spotN
  simp only
  omega
theorem unN_inj {a b : Nat} (ha : a < 16777216) (hb : b < 16777216) (h : unN a = unN b) : a = b := by
  have h1 : (unN a).map spotN = (unN b).map spotN := by rw [h]
  unfold unN at h1
  rw [List.map_map, List.map_map] at h1
  have e : (spotN ∘ needI) = id := by funext i; exact spot_needI i
  rw [e, List.map_id, List.map_id] at h1
  refine mask_ext ha hb fun i hi => ?_
  have := (bitsN_mem (m := a) (i := i))
  rw [h1, bitsN_mem] at this
  rw [Bool.eq_iff_iff]
  constructor
  · intro h2; exact (this.2 ⟨hi, h2⟩).2
  · intro h2; exact (this.1 ⟨hi, h2⟩).2
theorem masks_lt {al : List (List Nd)} (h : ∀ l ∈ al, ∀ x ∈ l, InN x) : ∀ m ∈ al.map maskN, m < 16777216 := by
  intro m hm
  obtain ⟨l, hl, rfl⟩ := List.mem_map.1 hm
  exact maskN_lt (h l hl)
theorem dual_take {al : List (List Nd)} (h : dualOk al = true) : dualD al = sortL ((hitsOf al).map unN) := by
  unfold dualD
  rw [List.take_of_length_le (by have := of_decide_eq_true h; omega)]
theorem dual_mem {al : List (List Nd)} (h : dualOk al = true) {l : List Nd} : l ∈ dualD al ↔ ∃ T ∈ hitsOf al, l = unN T := by
  rw [dual_take h, (sortL_perm _).mem_iff, List.mem_map]
  constructor
  · rintro ⟨T, h1, h2⟩; exact ⟨T, h1, h2.symm⟩
  · rintro ⟨T, h1, h2⟩; exact ⟨T, h1, h2.symm⟩
theorem upN_of {l : List Nd} (h : l.Pairwise fun x y => befI x y < 0) : upN l = true := by
  unfold upN
  refine range_true fun i hi => decide_eq_true ?_
  rw [List.getD_eq_getElem?_getD, List.getD_eq_getElem?_getD, List.getElem?_eq_getElem (show i < l.length by omega), List.getElem?_eq_getElem (show i + 1 < l.length by omega)]
  exact (List.pairwise_iff_getElem.1 h) i (i + 1) (by omega) (by omega) (by omega)
theorem upL_of {l : List (List Nd)} (h : l.Pairwise fun x y => cmpL x y < 0) : upL l = true := by
  unfold upL
  refine range_true fun i hi => decide_eq_true ?_
  rw [List.getD_eq_getElem?_getD, List.getD_eq_getElem?_getD, List.getElem?_eq_getElem (show i < l.length by omega), List.getElem?_eq_getElem (show i + 1 < l.length by omega)]
  exact (List.pairwise_iff_getElem.1 h) i (i + 1) (by omega) (by omega) (by omega)
theorem befI_needI {i j : Nat} (h : i < j) : befI (needI i) (needI j) < 0 := by
  unfold befI needI
  simp only
  split <;> omega
theorem unN_up (T : Nat) : (unN T).Pairwise fun x y => befI x y < 0 := by
  unfold unN
  rw [List.pairwise_map]
  have h1 : (bitsN T).Pairwise (· < ·) := by
    unfold bitsN
    exact List.Pairwise.sublist List.filter_sublist List.pairwise_lt_range
  exact h1.imp fun h => befI_needI h
theorem strict_of {l : List (List Nd)} (h1 : l.Pairwise leL) (h2 : l.Nodup) : l.Pairwise fun x y => cmpL x y < 0 := by
  refine (h1.and h2).imp fun h => ?_
  rcases leL_iff.1 h.1 with h3 | h3
  · exact h3
  · exact absurd h3 h.2
theorem nodup_map_inj {α β : Type} {f : α → β} : ∀ {l : List α}, (∀ a ∈ l, ∀ b ∈ l, f a = f b → a = b) → l.Nodup → (l.map f).Nodup
  | [], _, _ => List.nodup_nil
  | a :: r, h, hn => by
    rw [List.map_cons, List.nodup_cons]
    refine ⟨fun hm => ?_, nodup_map_inj (fun x hx y hy => h x (List.mem_cons_of_mem _ hx) y (List.mem_cons_of_mem _ hy)) (List.nodup_cons.1 hn).2⟩
    obtain ⟨b, hb, e⟩ := List.mem_map.1 hm
    have := h b (List.mem_cons_of_mem _ hb) a (List.mem_cons_self ..) e
    subst this
    exact (List.nodup_cons.1 hn).1 hb
theorem dual_up {al : List (List Nd)} (hin : ∀ l ∈ al, ∀ x ∈ l, InN x) (hd : dualOk al = true) : (dualD al).Pairwise fun x y => cmpL x y < 0 := by
  have hlt := masks_lt hin
  rw [dual_take hd]
  refine strict_of (sortL_sorted _) ((sortL_perm _).nodup_iff.2 (nodup_map_inj (fun a ha b hb e => unN_inj (hits_lt hlt a ha) (hits_lt hlt b hb) e) (hits_nodup _ hlt)))
theorem dual_valid {r n : Int} {al : List (List Nd)} (hr : r ≤ 4) (hn : n ≤ 6) (h : altsOk r n al = true) (hd : dualOk al = true) : altsOk r n (dualD al) = true := by
  unfold altsOk at h ⊢
  simp only [Bool.and_eq_true, decide_eq_true_eq, List.all_eq_true] at h ⊢
  have hnb : ∀ l ∈ al, ∀ x ∈ l, nbad r n x = false := by
    intro l hl x hx
    have h2 := h.1.2 l hl
    unfold listOk at h2
    simp only [Bool.and_eq_true, Bool.not_eq_true', decide_eq_true_eq] at h2
    cases hb : nbad r n x with
    | false => rfl
    | true => have := List.any_eq_true.2 ⟨x, hx, hb⟩; rw [h2.1.2] at this; cases this
  have hin : ∀ l ∈ al, ∀ x ∈ l, InN x := by
    intro l hl x hx
    have := hnb l hl x hx
    unfold nbad at this
    simp only [Bool.or_eq_false_iff, decide_eq_false_iff_not] at this
    unfold InN
    omega
  have hlt := masks_lt hin
  refine ⟨⟨?_, fun l hl => ?_⟩, upL_of (dual_up hin hd)⟩
  · rw [dual_take hd, (sortL_perm _).length_eq, List.length_map]
    exact of_decide_eq_true hd
  · obtain ⟨T, hT, rfl⟩ := (dual_mem hd).1 hl
    obtain ⟨t1, t2, t3⟩ := (hits_iff _ hlt).1 hT
    unfold listOk
    simp only [Bool.and_eq_true, decide_eq_true_eq, Bool.not_eq_true']
    refine ⟨⟨(unN_small T).1, ?_⟩, upN_of (unN_up T)⟩
    cases hb : (unN T).any (nbad r n) with
    | false => rfl
    | true =>
      obtain ⟨x, hx, hx2⟩ := List.any_eq_true.1 hb
      obtain ⟨i, hi, rfl⟩ := List.mem_map.1 hx
      obtain ⟨m, hm, e⟩ := (needed_iff t1).1 t3 i (bitsN_mem.1 hi).2
      obtain ⟨l, hl, rfl⟩ := List.mem_map.1 hm
      obtain ⟨y, hy, hs⟩ := maskN_bit.1 (and_one.1 e).1.1
      rw [← hs, needI_spot (hin l hl y hy), hnb l hl y hy] at hx2
      cases hx2
theorem rowD_at (row : List (List (List Nd))) {f : Nat} (h : f < row.length) : (rowD row).getD f [] = dualD (row.getD f []) := by
  unfold rowD
  rw [List.getD_eq_getElem?_getD, List.getElem?_map, List.getElem?_eq_getElem h, List.getD_eq_getElem?_getD, List.getElem?_eq_getElem h]; rfl
theorem mvOkD_at {M : Mv} (h : mvOkD M = true) {row : List (List (List Nd))} (hr : row ∈ M) {a : List (List Nd)} (ha : a ∈ row) : dualOk a = true :=
  List.all_eq_true.1 (List.all_eq_true.1 h row hr) a ha
theorem auB_dual {rk : List Int} {st : Int} {M : Mv} (h : auB rk st M = true) (hd : mvOkD M = true) : auB rk st (M.map rowD) = true := by
  have ok := auOk h
  unfold auB at h ⊢
  simp only [Bool.and_eq_true, decide_eq_true_eq, List.length_map] at h ⊢
  obtain ⟨⟨⟨⟨⟨h1, h2⟩, h3⟩, h4⟩, h5⟩, h6⟩ := h
  refine ⟨⟨⟨⟨⟨h1, h2⟩, h3⟩, h4⟩, h5⟩, ?_⟩
  rw [List.all_eq_true] at h6 ⊢
  intro row' hr'
  obtain ⟨row, hr, rfl⟩ := List.mem_map.1 hr'
  have h7 := h6 row hr
  unfold mrowOk at h7 ⊢
  simp only [Bool.and_eq_true, decide_eq_true_eq, List.all_eq_true, List.mem_range] at h7 ⊢
  refine ⟨by unfold rowD; rw [List.length_map]; exact h7.1, fun f hf => ?_⟩
  rw [rowD_at row (by omega)]
  have hrk : rd rk (f : Int) ≤ 4 := (ok.rks _ (rd_mem (by omega))).2
  exact dual_valid hrk (by omega) (h7.2 f hf) (mvOkD_at hd hr (getD_memX [] (show f < row.length by omega)))
end Go.Proofs.YtbmcigakiibncaaGreatDoor.H
namespace Go.Proofs.YtbmcigakiibncaaGreatDoor.H
open Go.RowKit
set_option linter.unusedVariables false
set_option linter.unusedSimpArgs false
def eqN (x y : Nd) : Bool := decide (x.f0 = y.f0) && decide (x.f1 = y.f1)
theorem eqN_iff {x y : Nd} : eqN x y = true ↔ x = y := by
  obtain ⟨a, b⟩ := x
  obtain ⟨c, d⟩ := y
  unfold eqN
  simp
def withinN (a b : List Nd) : Bool := a.all fun x => b.any fun y => eqN x y
def Asc (l : List Nd) : Prop := l.Pairwise (fun x y => befI x y < 0) ∧ ∀ x ∈ l, InN x
theorem maskN_unN {T : Nat} (hT : T < 16777216) : maskN (unN T) = T := by
  refine mask_ext (maskN_lt (unN_small T).2) hT fun i hi => ?_
  rw [Bool.eq_iff_iff, maskN_bit]
  constructor
  · rintro ⟨x, hx, hs⟩
    obtain ⟨j, hj, rfl⟩ := List.mem_map.1 hx
    rw [spot_needI] at hs
    subst hs
    exact (bitsN_mem.1 hj).2
  · intro h
    exact ⟨needI i, List.mem_map.2 ⟨i, bitsN_mem.2 ⟨hi, h⟩, rfl⟩, spot_needI i⟩
theorem mem_unN {T : Nat} {x : Nd} (hx : InN x) : x ∈ unN T ↔ T.testBit (spotN x) = true := by
  constructor
  · intro h
    obtain ⟨j, hj, rfl⟩ := List.mem_map.1 h
    rw [spot_needI]; exact (bitsN_mem.1 hj).2
  · intro h
    exact List.mem_map.2 ⟨spotN x, bitsN_mem.2 ⟨(spot_lt hx).1, h⟩, needI_spot hx⟩
theorem asc_eq : ∀ {a b : List Nd}, a.Pairwise (fun x y => befI x y < 0) → b.Pairwise (fun x y => befI x y < 0) → (∀ x, x ∈ a ↔ x ∈ b) → a = b
  | [], [], _, _, _ => rfl
  | [], y :: b, _, _, h => absurd ((h y).2 (List.mem_cons_self ..)) (by simp)
  | x :: a, [], _, _, h => absurd ((h x).1 (List.mem_cons_self ..)) (by simp)
  | x :: a, y :: b, ha, hb, h => by
    have e : x = y := by
      rcases List.mem_cons.1 ((h x).1 (List.mem_cons_self ..)) with e | h1
      · exact e
      rcases List.mem_cons.1 ((h y).2 (List.mem_cons_self ..)) with e | h2
      · exact e.symm
      have h3 := (List.pairwise_cons.1 hb).1 x h1
      have h4 := (List.pairwise_cons.1 ha).1 y h2
      have := befI_neg.1 h3
      omega
    subst e
    congr 1
    refine asc_eq (List.pairwise_cons.1 ha).2 (List.pairwise_cons.1 hb).2 fun z => ?_
    have hx1 : x ∉ a := fun hm => by have := (List.pairwise_cons.1 ha).1 x hm; rw [befI_self] at this; omega
    have hx2 : x ∉ b := fun hm => by have := (List.pairwise_cons.1 hb).1 x hm; rw [befI_self] at this; omega
    constructor
    · intro hz
      rcases List.mem_cons.1 ((h z).1 (List.mem_cons_of_mem _ hz)) with rfl | h1
      · exact absurd hz hx1
      · exact h1
    · intro hz
      rcases List.mem_cons.1 ((h z).2 (List.mem_cons_of_mem _ hz)) with rfl | h1
      · exact absurd hz hx2
      · exact h1
theorem unN_maskN {l : List Nd} (h : Asc l) : unN (maskN l) = l := by
  refine asc_eq (unN_up _) h.1 fun x => ?_
  constructor
  · intro hx
    obtain ⟨i, hi, rfl⟩ := List.mem_map.1 hx
    obtain ⟨y, hy, hs⟩ := maskN_bit.1 (bitsN_mem.1 hi).2
    rw [← hs, needI_spot (h.2 y hy)]; exact hy
  · intro hx
    exact (mem_unN (h.2 x hx)).2 (maskN_bit.2 ⟨x, hx, rfl⟩)
theorem within_mask {a b : List Nd} (ha : ∀ x ∈ a, InN x) (hb : ∀ x ∈ b, InN x) : withinN a b = true ↔ SubM (maskN a) (maskN b) := by
  unfold withinN
  rw [List.all_eq_true]
  constructor
  · intro h i hi
    obtain ⟨x, hx, rfl⟩ := maskN_bit.1 hi
    obtain ⟨y, hy, e⟩ := List.any_eq_true.1 (h x hx)
    rw [eqN_iff] at e
    subst e
    exact maskN_bit.2 ⟨x, hy, rfl⟩
  · intro h x hx
    obtain ⟨y, hy, hs⟩ := maskN_bit.1 (h (spotN x) (maskN_bit.2 ⟨x, hx, rfl⟩))
    refine List.any_eq_true.2 ⟨y, hy, eqN_iff.2 ?_⟩
    rw [← needI_spot (ha x hx), ← needI_spot (hb y hy), hs]
def unionN : List Nd → List Nd → List Nd
  | [], b => b
  | a, [] => a
  | x :: a, y :: b => if befI x y < 0 then x :: unionN a (y :: b) else if 0 < befI x y then y :: unionN (x :: a) b else x :: unionN a b
  termination_by a b => a.length + b.length
theorem unionN_nil (a : List Nd) : unionN a [] = a := by cases a <;> simp [unionN]
theorem unionN_mem : ∀ (a b : List Nd) (z : Nd), z ∈ unionN a b ↔ z ∈ a ∨ z ∈ b
  | [], b, z => by simp [unionN]
  | x :: a, [], z => by simp [unionN]
  | x :: a, y :: b, z => by
    rw [unionN]
    split
    · rw [List.mem_cons, unionN_mem a (y :: b) z, ← or_assoc, ← List.mem_cons]
    · split
      · rw [List.mem_cons, unionN_mem (x :: a) b z, or_left_comm, ← List.mem_cons (a := z) (b := y)]
      · rename_i h1 h2
        have e := befI_zero (show befI x y = 0 by omega)
        subst e
        rw [List.mem_cons, unionN_mem a b z, List.mem_cons, List.mem_cons]
        constructor
        · intro h
          rcases h with h | h | h
          · exact .inl (.inl h)
          · exact .inl (.inr h)
          · exact .inr (.inr h)
        · intro h
          rcases h with (h | h) | (h | h)
          · exact .inl h
          · exact .inr (.inl h)
          · exact .inl h
          · exact .inr (.inr h)
  termination_by a b => a.length + b.length
theorem unionN_up : ∀ (a b : List Nd), a.Pairwise (fun x y => befI x y < 0) → b.Pairwise (fun x y => befI x y < 0) → (unionN a b).Pairwise fun x y => befI x y < 0
  | [], b, _, hb => by simpa [unionN] using hb
  | x :: a, [], ha, _ => by simpa [unionN] using ha
  | x :: a, y :: b, ha, hb => by
    have hxa := (List.pairwise_cons.1 ha).1
    have hyb := (List.pairwise_cons.1 hb).1
    rw [unionN]
    split
    · rename_i h
      refine List.pairwise_cons.2 ⟨fun z hz => ?_, unionN_up a (y :: b) (List.pairwise_cons.1 ha).2 hb⟩
      rcases (unionN_mem _ _ _).1 hz with hz | hz
      · exact hxa z hz
      · rcases List.mem_cons.1 hz with rfl | hz
        · exact h
        · exact befI_trans h (hyb z hz)
    · split
      · rename_i h1 h2
        have h3 := befI_neg.2 h2
        refine List.pairwise_cons.2 ⟨fun z hz => ?_, unionN_up (x :: a) b ha (List.pairwise_cons.1 hb).2⟩
        rcases (unionN_mem _ _ _).1 hz with hz | hz
        · rcases List.mem_cons.1 hz with rfl | hz
          · exact h3
          · exact befI_trans h3 (hxa z hz)
        · exact hyb z hz
      · rename_i h1 h2
        have e := befI_zero (show befI x y = 0 by omega)
        subst e
        refine List.pairwise_cons.2 ⟨fun z hz => ?_, unionN_up a b (List.pairwise_cons.1 ha).2 (List.pairwise_cons.1 hb).2⟩
        rcases (unionN_mem _ _ _).1 hz with hz | hz
        · exact hxa z hz
        · exact hyb z hz
  termination_by a b => a.length + b.length
def insertA : List (List Nd) → List Nd → List (List Nd)
  | [], x => [x]
  | y :: r, x => if cmpL y x < 0 then y :: insertA r x else if 0 < cmpL y x then x :: y :: r else y :: r
theorem insertA_mem : ∀ (l : List (List Nd)) (x z : List Nd), z ∈ insertA l x ↔ z = x ∨ z ∈ l
  | [], x, z => by simp [insertA]
  | y :: r, x, z => by
    rw [insertA]
    split
    · rw [List.mem_cons, insertA_mem r x z, or_left_comm, ← List.mem_cons (a := z) (b := y)]
    · split
      · rw [List.mem_cons]
      · rename_i h1 h2
        have e := cmpL_zero (show cmpL y x = 0 by omega)
        subst e
        rw [List.mem_cons]
        constructor
        · intro h; exact .inr h
        · intro h
          rcases h with h | h
          · exact .inl h
          · exact h
theorem insertA_up : ∀ (l : List (List Nd)) (x : List Nd), l.Pairwise (fun x y => cmpL x y < 0) → (insertA l x).Pairwise fun x y => cmpL x y < 0
  | [], x, _ => List.pairwise_singleton _ _
  | y :: r, x, h => by
    have hy := (List.pairwise_cons.1 h).1
    have hr := (List.pairwise_cons.1 h).2
    rw [insertA]
    split
    · rename_i hc
      refine List.pairwise_cons.2 ⟨fun z hz => ?_, insertA_up r x hr⟩
      rcases (insertA_mem _ _ _).1 hz with rfl | hz
      · exact hc
      · exact hy z hz
    · split
      · rename_i h1 h2
        have h3 := cmpL_neg.2 h2
        refine List.pairwise_cons.2 ⟨fun z hz => ?_, h⟩
        rcases List.mem_cons.1 hz with rfl | hz
        · exact h3
        · exact cmpL_trans h3 (hy z hz)
      · exact h
def keepB (l : List (List Nd)) (i : Nat) : Bool := (List.range l.length).all fun k => decide (i = k) || !withinN (l.getD k []) (l.getD i [])
def smallest (l : List (List Nd)) : List (List Nd) := ((List.range l.length).filter (keepB l)).map fun i => l.getD i []
theorem smallest_sub (l : List (List Nd)) : (smallest l).Sublist l := by
  have h1 : ((List.range l.length).map fun i => l.getD i []) = l := by
    apply List.ext_getElem (by simp)
    intro i h1 h2
    simp [List.getD_eq_getElem?_getD, h2]
  unfold smallest
  conv => rhs; rw [← h1]
  exact List.filter_sublist.map _
theorem smallest_mem {l : List (List Nd)} (hn : l.Nodup) {x : List Nd} : x ∈ smallest l ↔ x ∈ l ∧ ∀ y ∈ l, withinN y x = true → y = x := by
  unfold smallest
  rw [List.mem_map]
  constructor
  · rintro ⟨i, hi, rfl⟩
    obtain ⟨h1, h2⟩ := List.mem_filter.1 hi
    have h1 := List.mem_range.1 h1
    refine ⟨getD_memX [] h1, fun y hy hw => ?_⟩
    obtain ⟨k, hk, rfl⟩ := mem_getD (d := []) hy
    unfold keepB at h2
    have h3 := List.all_eq_true.1 h2 k (List.mem_range.2 hk)
    rw [hw, Bool.not_true, Bool.or_false, decide_eq_true_eq] at h3
    rw [h3]
  · rintro ⟨hx, hmin⟩
    obtain ⟨i, hi, rfl⟩ := mem_getD (d := []) hx
    refine ⟨i, List.mem_filter.2 ⟨List.mem_range.2 hi, ?_⟩, rfl⟩
    unfold keepB
    rw [List.all_eq_true]
    intro k hk
    have hk := List.mem_range.1 hk
    cases hw : withinN (l.getD k []) (l.getD i []) with
    | false => simp
    | true =>
      have e := hmin _ (getD_memX [] hk) hw
      rw [List.getD_eq_getElem?_getD, List.getElem?_eq_getElem hk, List.getD_eq_getElem?_getD, List.getElem?_eq_getElem hi] at e
      have := (List.getElem_inj hn).1 (show l[k] = l[i] from e)
      simp [this]
theorem up_nodup {l : List (List Nd)} (h : l.Pairwise fun x y => cmpL x y < 0) : l.Nodup := h.imp fun hc e => by subst e; rw [cmpL_self] at hc; omega
def MinM (alts : List Nat) (T : Nat) : Prop := HitsM alts T ∧ ∀ S, SubM S T → HitsM alts S → SubM T S
theorem subM_antisymm {a b : Nat} (h1 : SubM a b) (h2 : SubM b a) : a = b := by
  apply Nat.eq_of_testBit_eq
  intro i
  rw [Bool.eq_iff_iff]
  exact ⟨h1 i, h2 i⟩
theorem hits_up {alts : List Nat} {S T : Nat} (h : HitsM alts S) (hs : SubM S T) : HitsM alts T := fun l hl => by
  obtain ⟨i, h1, h2⟩ := and_ne.1 (h l hl)
  exact and_ne.2 ⟨i, h1, hs i h2⟩
theorem subM_lt {S T : Nat} (hT : T < 16777216) (h : SubM S T) : S < 16777216 := by
  apply Classical.byContradiction
  intro hc
  have hS : S ≠ 0 := by omega
  have h1 : S.testBit S.log2 = true := Nat.testBit_log2 hS
  have h2 := bit_lt hT (h _ h1)
  have h3 := Nat.lt_log2_self (n := S)
  have : S < 2 ^ 24 := Nat.lt_of_lt_of_le h3 (Nat.pow_le_pow_right (by decide) (by omega))
  omega
theorem min_needed {alts : List Nat} (hal : ∀ l ∈ alts, l < 16777216) {T : Nat} (hT : T < 16777216) : (HitsM alts T ∧ neededB alts T = true) ↔ MinM alts T := by
  constructor
  · rintro ⟨h1, h2⟩
    refine ⟨h1, fun S hs hh i hi => ?_⟩
    obtain ⟨l, hl, e⟩ := (needed_iff hT).1 h2 i hi
    obtain ⟨j, j1, j2⟩ := and_ne.1 (hh l hl)
    have := (and_one.1 e).2 j j1 (hs j j2)
    subst this
    exact j2
  · rintro ⟨h1, h2⟩
    obtain ⟨S, hS, hsub⟩ := hits_within alts hal _ T (Nat.le_refl _) hT h1
    obtain ⟨s1, s2, s3⟩ := (hits_iff alts hal).1 hS
    have e := subM_antisymm hsub (h2 S hsub s2)
    subst e
    exact ⟨s2, s3⟩
theorem min_within {alts : List Nat} (hal : ∀ l ∈ alts, l < 16777216) {S : Nat} (hS : S < 16777216) (hh : HitsM alts S) : ∃ T, T < 16777216 ∧ MinM alts T ∧ SubM T S := by
  obtain ⟨T, hT, hs⟩ := hits_within alts hal _ S (Nat.le_refl _) hS hh
  obtain ⟨t1, t2, t3⟩ := (hits_iff alts hal).1 hT
  exact ⟨T, t1, (min_needed hal t1).1 ⟨t2, t3⟩, hs⟩
theorem or_bits {Y i j : Nat} : (Y ||| 2 ^ i).testBit j = true ↔ Y.testBit j = true ∨ j = i := by
  rw [Nat.testBit_or, Nat.testBit_two_pow, Bool.or_eq_true, decide_eq_true_eq]
  constructor
  · intro h
    rcases h with h | h
    · exact .inl h
    · exact .inr h.symm
  · intro h
    rcases h with h | h
    · exact .inl h
    · exact .inr h.symm
theorem min_step {alts : List Nat} (hal : ∀ l ∈ alts, l < 16777216) {m : Nat} (hm : m < 16777216) {U : Nat} (hU : U < 16777216) :
    MinM (alts ++ [m]) U ↔ (∃ Y i, Y < 16777216 ∧ MinM alts Y ∧ m.testBit i = true ∧ U = Y ||| 2 ^ i) ∧ ∀ Y i, Y < 16777216 → MinM alts Y → m.testBit i = true → SubM (Y ||| 2 ^ i) U → Y ||| 2 ^ i = U := by
  have hal2 : ∀ l ∈ alts ++ [m], l < 16777216 := fun l hl => by
    rcases List.mem_append.1 hl with h | h
    · exact hal l h
    · rw [List.mem_singleton.1 h]; exact hm
  have hits2 : ∀ S, HitsM (alts ++ [m]) S ↔ HitsM alts S ∧ m &&& S ≠ 0 := fun S => by
    constructor
    · intro h; exact ⟨fun l hl => h l (List.mem_append_left _ hl), h m (by simp)⟩
    · rintro ⟨h1, h2⟩ l hl
      rcases List.mem_append.1 hl with h | h
      · exact h1 l h
      · rw [List.mem_singleton.1 h]; exact h2
  have hyp : ∀ Y i, MinM alts Y → m.testBit i = true → HitsM (alts ++ [m]) (Y ||| 2 ^ i) := fun Y i hY hi =>
    (hits2 _).2 ⟨hits_up hY.1 fun j hj => or_bits.2 (.inl hj), and_ne.2 ⟨i, hi, or_bits.2 (.inr rfl)⟩⟩
  have fwd : ∀ V, V < 16777216 → MinM (alts ++ [m]) V → ∃ Y i, Y < 16777216 ∧ MinM alts Y ∧ m.testBit i = true ∧ V = Y ||| 2 ^ i := by
    intro V hV h
    obtain ⟨a1, a2⟩ := (hits2 V).1 h.1
    obtain ⟨Y, y1, y2, y3⟩ := min_within hal hV a1
    obtain ⟨i, i1, i2⟩ := and_ne.1 a2
    refine ⟨Y, i, y1, y2, i1, ?_⟩
    have hs : SubM (Y ||| 2 ^ i) V := fun j hj => by
      rcases or_bits.1 hj with h | h
      · exact y3 j h
      · rw [h]; exact i2
    exact subM_antisymm (h.2 _ hs (hyp Y i y2 i1)) hs
  constructor
  · intro h
    refine ⟨fwd U hU h, fun Y i y1 y2 i1 hs => subM_antisymm hs (h.2 _ hs (hyp Y i y2 i1))⟩
  · rintro ⟨⟨Y, i, y1, y2, i1, rfl⟩, h2⟩
    refine ⟨hyp Y i y2 i1, fun S hs hh => ?_⟩
    have hSlt := subM_lt hU hs
    obtain ⟨V, v1, v2, v3⟩ := min_within hal2 hSlt hh
    obtain ⟨Y', i', y1', y2', i1', rfl⟩ := fwd V v1 v2
    have e := h2 Y' i' y1' y2' i1' (fun j hj => hs j (v3 j hj))
    rw [← e]
    exact v3
theorem min_congr {a b : List Nat} (h : ∀ S, HitsM a S ↔ HitsM b S) (T : Nat) : MinM a T ↔ MinM b T := by
  unfold MinM
  rw [h T]
  constructor
  · rintro ⟨h1, h2⟩; exact ⟨h1, fun S hs hh => h2 S hs ((h S).2 hh)⟩
  · rintro ⟨h1, h2⟩; exact ⟨h1, fun S hs hh => h2 S hs ((h S).1 hh)⟩
def addAll (y : List Nd) (next : List (List Nd)) (x : List Nd) : List (List Nd) := x.foldl (fun next z => insertA next (unionN y [z])) next
def nextOf (out : List (List Nd)) (x : List Nd) : List (List Nd) := out.foldl (fun next y => addAll y next x) []
def dualF (l : List (List Nd)) : List (List Nd) := (smallest l).foldl (fun out x => smallest (nextOf out x)) [[]]
theorem addAll_mem (y : List Nd) : ∀ (x : List Nd) (next : List (List Nd)) (z : List Nd), z ∈ addAll y next x ↔ z ∈ next ∨ ∃ u ∈ x, z = unionN y [u]
  | [], next, z => by simp [addAll]
  | u :: x, next, z => by
    show z ∈ addAll y (insertA next (unionN y [u])) x ↔ _
    rw [addAll_mem y x, insertA_mem]
    constructor
    · rintro ((h | h) | ⟨v, hv, h⟩)
      · exact .inr ⟨u, List.mem_cons_self .., h⟩
      · exact .inl h
      · exact .inr ⟨v, List.mem_cons_of_mem _ hv, h⟩
    · rintro (h | ⟨v, hv, h⟩)
      · exact .inl (.inr h)
      · rcases List.mem_cons.1 hv with rfl | hv
        · exact .inl (.inl h)
        · exact .inr ⟨v, hv, h⟩
theorem addAll_up (y : List Nd) : ∀ (x : List Nd) (next : List (List Nd)), next.Pairwise (fun x y => cmpL x y < 0) → (addAll y next x).Pairwise fun x y => cmpL x y < 0
  | [], next, h => h
  | u :: x, next, h => addAll_up y x _ (insertA_up _ _ h)
theorem next_fold (x : List Nd) : ∀ (out next : List (List Nd)), (∀ z, z ∈ out.foldl (fun next y => addAll y next x) next ↔ z ∈ next ∨ ∃ y ∈ out, ∃ u ∈ x, z = unionN y [u]) ∧ (next.Pairwise (fun x y => cmpL x y < 0) → (out.foldl (fun next y => addAll y next x) next).Pairwise fun x y => cmpL x y < 0)
  | [], next => ⟨fun z => by simp, fun h => h⟩
  | y :: out, next => by
    obtain ⟨h1, h2⟩ := next_fold x out (addAll y next x)
    refine ⟨fun z => ?_, fun h => h2 (addAll_up y x next h)⟩
    rw [List.foldl_cons, h1, addAll_mem]
    constructor
    · rintro ((h | h) | ⟨v, hv, h⟩)
      · exact .inl h
      · exact .inr ⟨y, List.mem_cons_self .., h⟩
      · exact .inr ⟨v, List.mem_cons_of_mem _ hv, h⟩
    · rintro (h | ⟨v, hv, h⟩)
      · exact .inl (.inl h)
      · rcases List.mem_cons.1 hv with rfl | hv
        · exact .inl (.inr h)
        · exact .inr ⟨v, hv, h⟩
theorem union_one {Y : Nat} (hY : Y < 16777216) {u : Nd} (hu : InN u) : unionN (unN Y) [u] = unN (Y ||| 2 ^ spotN u) := by
  have hlt : Y ||| 2 ^ spotN u < 16777216 := or_lt hY (spot_lt hu).1
  refine asc_eq (unionN_up _ _ (unN_up Y) (List.pairwise_singleton _ _)) (unN_up _) fun z => ?_
  rw [unionN_mem, List.mem_singleton]
  constructor
  · intro h
    have hz : InN z := by
      rcases h with h | h
      · exact (unN_small Y).2 z h
      · rw [h]; exact hu
    rw [mem_unN hz, or_bits]
    rcases h with h | h
    · exact .inl ((mem_unN hz).1 h)
    · rw [h]; exact .inr rfl
  · intro h
    have hz := (unN_small _).2 z h
    rw [mem_unN hz, or_bits] at h
    rcases h with h | h
    · exact .inl ((mem_unN hz).2 h)
    · right
      rw [← needI_spot hz, ← needI_spot hu, h]
structure DInv (alts : List Nat) (out : List (List Nd)) : Prop where
  up : out.Pairwise fun x y => cmpL x y < 0
  el : ∀ y ∈ out, ∃ T, T < 16777216 ∧ y = unN T
  is : ∀ T, T < 16777216 → (unN T ∈ out ↔ MinM alts T)
theorem dinv_start : DInv [] [[]] := by
  have h0 : unN 0 = [] := by unfold unN; rw [bitsN_zero]; rfl
  refine ⟨List.pairwise_singleton _ _, fun y hy => ⟨0, by decide, by rw [List.mem_singleton.1 hy, h0]⟩, fun T hT => ?_⟩
  rw [List.mem_singleton, ← h0]
  constructor
  · intro h
    have e := unN_inj hT (by decide) h
    subst e
    exact ⟨(fun l hl => by cases hl), (fun S hs _ i hi => by rw [Nat.zero_testBit] at hi; cases hi)⟩
  · intro h
    have e := subM_antisymm (h.2 0 (fun i hi => by rw [Nat.zero_testBit] at hi; cases hi) (fun l hl => by cases hl)) (fun i hi => by rw [Nat.zero_testBit] at hi; cases hi)
    rw [e]
theorem dinv_step {alts : List Nat} (hal : ∀ l ∈ alts, l < 16777216) {out : List (List Nd)} (h : DInv alts out) {x : List Nd} (hx : ∀ u ∈ x, InN u) : DInv (alts ++ [maskN x]) (smallest (nextOf out x)) := by
  obtain ⟨n1, n2⟩ := next_fold x out []
  have hup := n2 List.Pairwise.nil
  have hmem : ∀ z, z ∈ nextOf out x ↔ ∃ y ∈ out, ∃ u ∈ x, z = unionN y [u] := fun z => by
    have := n1 z
    simpa [nextOf] using this
  have hel : ∀ z ∈ nextOf out x, ∃ T, T < 16777216 ∧ z = unN T := fun z hz => by
    obtain ⟨y, hy, u, hu, rfl⟩ := (hmem z).1 hz
    obtain ⟨Y, hY, rfl⟩ := h.el y hy
    exact ⟨_, or_lt hY (spot_lt (hx u hu)).1, union_one hY (hx u hu)⟩
  have hT : ∀ T, T < 16777216 → (unN T ∈ nextOf out x ↔ ∃ Y i, Y < 16777216 ∧ MinM alts Y ∧ (maskN x).testBit i = true ∧ T = Y ||| 2 ^ i) := fun T hT => by
    rw [hmem]
    constructor
    · rintro ⟨y, hy, u, hu, e⟩
      obtain ⟨Y, hY, rfl⟩ := h.el y hy
      rw [union_one hY (hx u hu)] at e
      exact ⟨Y, spotN u, hY, (h.is Y hY).1 hy, maskN_bit.2 ⟨u, hu, rfl⟩, unN_inj hT (or_lt hY (spot_lt (hx u hu)).1) e⟩
    · rintro ⟨Y, i, hY, hm, hi, rfl⟩
      obtain ⟨u, hu, rfl⟩ := maskN_bit.1 hi
      exact ⟨unN Y, (h.is Y hY).2 hm, u, hu, (union_one hY (hx u hu)).symm⟩
  have hnd : (nextOf out x).Nodup := up_nodup hup
  refine ⟨List.Pairwise.sublist (smallest_sub _) hup, fun y hy => hel y ((smallest_sub _).subset hy), fun U hU => ?_⟩
  rw [smallest_mem hnd, hT U hU, min_step hal (maskN_lt hx) hU]
  refine and_congr Iff.rfl ⟨fun h2 Y i hY hm hi hs => ?_, fun h2 y hy hw => ?_⟩
  · have hlt : Y ||| 2 ^ i < 16777216 := or_lt hY (bit_lt (maskN_lt hx) hi)
    have := h2 (unN (Y ||| 2 ^ i)) ((hT _ hlt).2 ⟨Y, i, hY, hm, hi, rfl⟩) ((within_mask (unN_small _).2 (unN_small _).2).2 (by rw [maskN_unN hlt, maskN_unN hU]; exact hs))
    exact unN_inj hlt hU this
  · obtain ⟨T, hTl, rfl⟩ := hel y hy
    obtain ⟨Y, i, hY, hm, hi, rfl⟩ := (hT T hTl).1 hy
    have hs := (within_mask (unN_small _).2 (unN_small _).2).1 hw
    rw [maskN_unN hTl, maskN_unN hU] at hs
    rw [h2 Y i hY hm hi hs]
theorem dinv_fold : ∀ (xs : List (List Nd)) (alts : List Nat) (out : List (List Nd)), (∀ l ∈ alts, l < 16777216) → DInv alts out → (∀ x ∈ xs, ∀ u ∈ x, InN u) → DInv (alts ++ xs.map maskN) (xs.foldl (fun out x => smallest (nextOf out x)) out)
  | [], alts, out, _, h, _ => by simpa using h
  | x :: xs, alts, out, hal, h, hx => by
    have h1 := dinv_step hal h (hx x (List.mem_cons_self ..))
    have := dinv_fold xs (alts ++ [maskN x]) _ (fun l hl => by
      rcases List.mem_append.1 hl with hl | hl
      · exact hal l hl
      · rw [List.mem_singleton.1 hl]; exact maskN_lt (hx x (List.mem_cons_self ..))) h1 (fun y hy => hx y (List.mem_cons_of_mem _ hy))
    rw [List.append_assoc] at this
    exact this
theorem smallest_hits {al : List (List Nd)} (hn : al.Nodup) (hin : ∀ l ∈ al, Asc l) (S : Nat) : HitsM ((smallest al).map maskN) S ↔ HitsM (al.map maskN) S := by
  constructor
  · intro h m hm
    obtain ⟨l, hl, rfl⟩ := List.mem_map.1 hm
    have key : ∀ (n : Nat) (l : List Nd), l ∈ al → (bitsN (maskN l)).length ≤ n → ∃ l' ∈ smallest al, SubM (maskN l') (maskN l) := by
      intro n
      induction n with
      | zero =>
        intro l hl hlen
        refine ⟨l, (smallest_mem hn).2 ⟨hl, fun y hy hw => ?_⟩, fun _ h => h⟩
        have hs := (within_mask (hin y hy).2 (hin l hl).2).1 hw
        have h0 : ∀ i, (maskN l).testBit i = false := fun i => by
          cases hb : (maskN l).testBit i with
          | false => rfl
          | true =>
            have : i ∈ bitsN (maskN l) := bitsN_mem.2 ⟨bit_lt (maskN_lt (hin l hl).2) hb, hb⟩
            rw [List.length_eq_zero_iff.1 (show (bitsN (maskN l)).length = 0 by omega)] at this; cases this
        have e : maskN y = maskN l := subM_antisymm hs (fun i hi => by rw [h0 i] at hi; cases hi)
        rw [← unN_maskN (hin y hy), ← unN_maskN (hin l hl), e]
      | succ n ih =>
        intro l hl hlen
        by_cases hmin : ∀ y ∈ al, withinN y l = true → y = l
        · exact ⟨l, (smallest_mem hn).2 ⟨hl, hmin⟩, fun _ h => h⟩
        · obtain ⟨y, hy⟩ := Classical.not_forall.1 hmin
          obtain ⟨hya, hy⟩ := Classical.not_imp.1 hy
          obtain ⟨hw, hne⟩ := Classical.not_imp.1 hy
          have hs := (within_mask (hin y hya).2 (hin l hl).2).1 hw
          have hlt : (bitsN (maskN y)).length < (bitsN (maskN l)).length := by
            have hle := bitsN_le hs
            apply Classical.byContradiction
            intro hc
            have heq : (bitsN (maskN y)).length = (bitsN (maskN l)).length := by omega
            apply hne
            have hsub : (bitsN (maskN y)).Sublist (bitsN (maskN l)) := by
              unfold bitsN
              have : (List.range 24).filter (fun i => (maskN y).testBit i) = ((List.range 24).filter (fun i => (maskN l).testBit i)).filter (fun i => (maskN y).testBit i) := by
                rw [List.filter_filter]
                refine List.filter_congr fun i _ => ?_
                cases hb : (maskN y).testBit i with
                | false => rfl
                | true => rw [hs i hb]; rfl
              rw [this]
              exact List.filter_sublist
            have e := hsub.eq_of_length heq
            have e2 : unN (maskN y) = unN (maskN l) := by unfold unN; rw [e]
            rw [unN_maskN (hin y hya), unN_maskN (hin l hl)] at e2
            exact e2
          obtain ⟨l', h1, h2⟩ := ih y hya (by omega)
          exact ⟨l', h1, fun i hi => hs i (h2 i hi)⟩
    obtain ⟨l', h1, h2⟩ := key _ l hl (Nat.le_refl _)
    obtain ⟨i, i1, i2⟩ := and_ne.1 (h _ (List.mem_map.2 ⟨l', h1, rfl⟩))
    exact and_ne.2 ⟨i, h2 i i1, i2⟩
  · intro h m hm
    obtain ⟨l, hl, rfl⟩ := List.mem_map.1 hm
    exact h _ (List.mem_map.2 ⟨l, (smallest_sub al).subset hl, rfl⟩)
theorem up_unique : ∀ {a b : List (List Nd)}, a.Pairwise (fun x y => cmpL x y < 0) → b.Pairwise (fun x y => cmpL x y < 0) → (∀ x, x ∈ a ↔ x ∈ b) → a = b
  | [], [], _, _, _ => rfl
  | [], y :: b, _, _, h => absurd ((h y).2 (List.mem_cons_self ..)) (by simp)
  | x :: a, [], _, _, h => absurd ((h x).1 (List.mem_cons_self ..)) (by simp)
  | x :: a, y :: b, ha, hb, h => by
    have e : x = y := by
      rcases List.mem_cons.1 ((h x).1 (List.mem_cons_self ..)) with e | h1
      · exact e
      rcases List.mem_cons.1 ((h y).2 (List.mem_cons_self ..)) with e | h2
      · exact e.symm
      have h3 := (List.pairwise_cons.1 hb).1 x h1
      have h4 := (List.pairwise_cons.1 ha).1 y h2
      have := cmpL_neg.1 h3
      omega
    subst e
    congr 1
    refine up_unique (List.pairwise_cons.1 ha).2 (List.pairwise_cons.1 hb).2 fun z => ?_
    have hx1 : x ∉ a := fun hm => by have := (List.pairwise_cons.1 ha).1 x hm; rw [cmpL_self] at this; omega
    have hx2 : x ∉ b := fun hm => by have := (List.pairwise_cons.1 hb).1 x hm; rw [cmpL_self] at this; omega
    constructor
    · intro hz
      rcases List.mem_cons.1 ((h z).1 (List.mem_cons_of_mem _ hz)) with rfl | h1
      · exact absurd hz hx1
      · exact h1
    · intro hz
      rcases List.mem_cons.1 ((h z).2 (List.mem_cons_of_mem _ hz)) with rfl | h1
      · exact absurd hz hx2
      · exact h1
theorem dualF_eq {al : List (List Nd)} (hup : al.Pairwise fun x y => cmpL x y < 0) (hin : ∀ l ∈ al, Asc l) : dualF al = sortL ((hitsOf al).map unN) := by
  have hin2 : ∀ l ∈ al, ∀ x ∈ l, InN x := fun l hl => (hin l hl).2
  have hlt := masks_lt hin2
  have hs := dinv_fold (smallest al) [] [[]] (fun l hl => by cases hl) dinv_start (fun x hx => hin2 x ((smallest_sub al).subset hx))
  rw [List.nil_append] at hs
  refine up_unique hs.up ?_ fun y => ?_
  · exact strict_of (sortL_sorted _) ((sortL_perm _).nodup_iff.2 (nodup_map_inj (fun a ha b hb e => unN_inj (hits_lt hlt a ha) (hits_lt hlt b hb) e) (hits_nodup _ hlt)))
  · rw [(sortL_perm _).mem_iff, List.mem_map]
    have key : ∀ T, T < 16777216 → (unN T ∈ dualF al ↔ T ∈ hitsOf al) := fun T hT => by
      rw [show dualF al = (smallest al).foldl (fun out x => smallest (nextOf out x)) [[]] from rfl, hs.is T hT, min_congr (smallest_hits (up_nodup hup) hin) T, ← min_needed hlt hT]
      unfold hitsOf
      rw [hits_iff _ hlt]
      exact ⟨fun h => ⟨hT, h⟩, fun h => h.2⟩
    constructor
    · intro hy
      obtain ⟨T, hT, rfl⟩ := hs.el y hy
      exact ⟨T, (key T hT).1 hy, rfl⟩
    · rintro ⟨T, hT, rfl⟩
      exact (key T (hits_lt hlt T hT)).2 hT
end Go.Proofs.YtbmcigakiibncaaGreatDoor.H
namespace Go.Proofs.YtbmcigakiibncaaGreatDoor.H
open Go.RowKit Go.Proofs.YtbmcigakiibncaaGreatDoorW.PrintWords Go.Proofs.YtbmcigakiibncaaGreatDoorW.PrintLast Go.Proofs.YtbmcigakiibncaaGreatDoorW.PrintMore
set_option linter.unusedVariables false
set_option linter.unusedSimpArgs false
theorem dropN {l : List Nd} {j : Nat} (h : j < l.length) : l.drop j = l.getD j zN :: l.drop (j + 1) := by
  rw [List.drop_eq_getElem_cons h]; simp [List.getD_eq_getElem?_getD, h]
theorem eqN_eta (x y : Nd) : (x.f0 == y.f0 && (x.f1 == y.f1)) = eqN x y := by
  unfold eqN
  rw [Bool.eq_iff_iff]; simp
theorem withinR_l1 (a b : List Nd) (hb : b.length ≤ 9223372036854775806) (x : Nd) (i : Nat) (r : Bool) (next : Ev (fun k => Q.virgationref09_Within.l0 k b a (a.length : Int) (wrap64 ((i : Int) + 1))) r) (d : Nat) :
    ∀ (j : Nat) (th : Bool), b.length - j = d → j ≤ b.length → Ev (fun k => Q.virgationref09_Within.l1 k b th a (a.length : Int) (i : Int) b (b.length : Int) (j : Int) x.f0 x.f1) ((th || (b.drop j).any fun y => eqN x y) && r) := by
  induction d with
  | zero =>
    intro j th hd hj
    rw [List.drop_eq_nil_of_le (by omega)]
    cases th with
    | true =>
      refine ev_next next fun k => ?_
      simp only [Q.virgationref09_Within.l1]
      rw [if_neg (by omega), if_pos trivial]
    | false =>
      refine ev_end fun k => ?_
      simp only [Q.virgationref09_Within.l1]
      rw [if_neg (by omega), if_neg (by simp)]; rfl
  | succ d ih =>
    intro j th hd hj
    have hlt : j < b.length := by omega
    rw [dropN hlt, List.any_cons]
    cases th with
    | true =>
      refine ev_next (ih (j + 1) true (by omega) (by omega)) fun k => ?_
      simp only [Q.virgationref09_Within.l1]
      rw [if_pos (by omega), if_pos (by omega), if_pos (by omega), if_pos trivial, wrap_succ (by omega) (by omega)]
      rfl
    | false =>
      rw [Bool.false_or]
      refine ev_next (ih (j + 1) (eqN x (b.getD j zN)) (by omega) (by omega)) fun k => ?_
      simp only [Q.virgationref09_Within.l1]
      rw [if_pos (by omega), if_pos (by omega), if_pos (by omega), if_neg (by simp), wrap_succ (by omega) (by omega), rdN_at, eqN_eta]
      rfl
theorem withinR_ev (a b : List Nd) (ha : a.length ≤ 9223372036854775806) (hb : b.length ≤ 9223372036854775806) : Ev (fun k => Q.virgationref09_Within.f k a b) (withinN a b) := by
  have loop : ∀ d i : Nat, a.length - i = d → i ≤ a.length → Ev (fun k => Q.virgationref09_Within.l0 k b a (a.length : Int) (i : Int)) ((a.drop i).all fun x => b.any fun y => eqN x y) := by
    intro d
    induction d with
    | zero =>
      intro i hd hi
      refine ev_end fun k => ?_
      simp only [Q.virgationref09_Within.l0]
      rw [if_neg (by omega), List.drop_eq_nil_of_le (by omega)]; rfl
    | succ d ih =>
      intro i hd hi
      have hlt : i < a.length := by omega
      rw [dropN hlt, List.all_cons]
      have h2 := ih (i + 1) (by omega) (by omega)
      rw [show ((i + 1 : Nat) : Int) = wrap64 ((i : Int) + 1) from (wrap_succ (i := (i : Int)) (by omega) (by omega)).symm] at h2
      have h1 := withinR_l1 a b hb (a.getD i zN) i _ h2 _ 0 false rfl (Nat.zero_le _)
      rw [List.drop_zero, Bool.false_or] at h1
      refine ev_next h1 fun k => ?_
      simp only [Q.virgationref09_Within.l0]
      rw [if_pos (by omega), if_pos (by omega), if_pos (by omega), rdN_at]
      rfl
  have h := loop a.length 0 (by omega) (by omega)
  rw [List.drop_zero] at h
  exact h
theorem withinR_calls (a b : List Nd) (A : Option Addr) (c : Nat) (B : Option Addr) (d : Nat) (w : World) (hA : Kd.C Q.k83 w A a.length a) (hc : a.length ≤ c) (hB : Kd.C Q.k83 w B b.length b) (hd : b.length ≤ d) (ha : a.length ≤ 1000) (hb : b.length ≤ 1000) :
    Calls Tryz.prog 95 #[.slice A a.length c, .slice B b.length d] w fun E w' => E = .returned (.bool (withinN a b)) ∧ Below w.heap.size w w' := by
  obtain ⟨k, hk⟩ := (withinR_ev a b (by omega) (by omega)).rounds
  exact Q.virgationref09_Within.calls k A c a B d b _ w hA hc hB hd hk
theorem compareC_calls (a b : List Nd) (A : Option Addr) (c : Nat) (B : Option Addr) (d : Nat) (w : World) (hA : Kd.C Q.k83 w A a.length a) (hc : a.length ≤ c) (hB : Kd.C Q.k83 w B b.length b) (hd : b.length ≤ d) :
    Calls Tryz.prog 94 #[.slice A a.length c, .slice B b.length d] w fun E w' => E = .returned (.int .i64 (sgI (cmpL a b))) ∧ Below w.heap.size w w' := by
  obtain ⟨k, hk⟩ := (compareF_ev a b hA.2.1).rounds
  exact Q.virgationref09_Compare.calls k A c a B d b _ w hA hc hB hd hk
theorem sgI_pos (z : Int) : 0 < sgI z ↔ 0 < z := by unfold sgI; split <;> (try split) <;> omega
theorem unionR_ev (a b : List Nd) (ha : a.length ≤ 1000) (hb : b.length ≤ 1000) (d : Nat) : ∀ (i j : Nat) (acc : List Nd), (a.length - i) + (b.length - j) ≤ d → i ≤ a.length → j ≤ b.length → acc.length ≤ i + j → Ev (fun k => Q.virgationref09_Union.l0 k a b acc (i : Int) (j : Int)) (acc ++ unionN (a.drop i) (b.drop j)) := by
  induction d with
  | zero =>
    intro i j acc hd hi hj hl
    rw [List.drop_eq_nil_of_le (show a.length ≤ i by omega), List.drop_eq_nil_of_le (show b.length ≤ j by omega), unionN, List.append_nil]
    have h1 : Ev (fun k => Q.virgationref09_Union.j1 k a b acc (i : Int) (j : Int) (decide ((j : Int) < (b.length : Int)))) acc := by
      refine ev_end fun k => ?_
      rw [decide_eq_false (by omega)]
      simp only [Q.virgationref09_Union.j1]
      rw [if_neg (by simp)]
    refine ev_next h1 fun k => ?_
    simp only [Q.virgationref09_Union.l0]
    rw [if_neg (by omega)]
  | succ d ih =>
    intro i j acc hd hi hj hl
    have addA : i < a.length → Ev (fun k => Q.virgationref09_Union.l0 k a b (acc ++ [a.getD i zN]) ((i + 1 : Nat) : Int) (j : Int)) ((acc ++ [a.getD i zN]) ++ unionN (a.drop (i + 1)) (b.drop j)) := fun h => ih (i + 1) j _ (by omega) (by omega) hj (by rw [List.length_append, List.length_singleton]; omega)
    have addB : j < b.length → Ev (fun k => Q.virgationref09_Union.l0 k a b (acc ++ [b.getD j zN]) (i : Int) ((j + 1 : Nat) : Int)) ((acc ++ [b.getD j zN]) ++ unionN (a.drop i) (b.drop (j + 1))) := fun h => ih i (j + 1) _ (by omega) hi (by omega) (by rw [List.length_append, List.length_singleton]; omega)
    by_cases h0 : i = a.length ∧ j = b.length
    · obtain ⟨h01, h02⟩ := h0
      rw [List.drop_eq_nil_of_le (show a.length ≤ i by omega), List.drop_eq_nil_of_le (show b.length ≤ j by omega), unionN, List.append_nil]
      have h1 : Ev (fun k => Q.virgationref09_Union.j1 k a b acc (i : Int) (j : Int) (decide ((j : Int) < (b.length : Int)))) acc := by
        refine ev_end fun k => ?_
        rw [decide_eq_false (by omega)]
        simp only [Q.virgationref09_Union.j1]
        rw [if_neg (by simp)]
      refine ev_next h1 fun k => ?_
      simp only [Q.virgationref09_Union.l0]
      rw [if_neg (by omega)]
    by_cases h1 : i < a.length
    · -- an element of the first
      have j2t : Ev (fun k => Q.virgationref09_Union.j2 k a b acc (i : Int) (j : Int) true) ((acc ++ [a.getD i zN]) ++ unionN (a.drop (i + 1)) (b.drop j)) := by
        refine ev_next (addA h1) fun k => ?_
        simp only [Q.virgationref09_Union.j2]
        rw [if_pos trivial, if_pos (by omega), if_pos (by omega), if_pos (by omega), rdN_at, wrap_succ (by omega) (by omega)]
        rfl
      have start : ∀ r, Ev (fun k => Q.virgationref09_Union.j1 k a b acc (i : Int) (j : Int) true) r → Ev (fun k => Q.virgationref09_Union.l0 k a b acc (i : Int) (j : Int)) r := fun r h => by
        refine ev_next h fun k => ?_
        simp only [Q.virgationref09_Union.l0]
        rw [if_pos (by omega)]
      by_cases h2 : j < b.length
      · have hbe := beforeR_ev (a.getD i zN) (b.getD j zN)
        refine start _ ?_
        have go : Ev (fun k => Q.virgationref09_Union.j2 k a b acc (i : Int) (j : Int) (decide (sgI (befI (a.getD i zN) (b.getD j zN)) < 0))) (acc ++ unionN (a.drop i) (b.drop j)) := by
          rw [dropN h1, dropN h2, unionN]
          by_cases c1 : befI (a.getD i zN) (b.getD j zN) < 0
          · rw [if_pos c1, decide_eq_true ((sgI_neg _).2 c1)]
            rw [dropN h2] at j2t
            simpa using j2t
          · rw [if_neg c1, decide_eq_false (fun h => c1 ((sgI_neg _).1 h))]
            by_cases c2 : 0 < befI (a.getD i zN) (b.getD j zN)
            · rw [if_pos c2]
              have e := addB h2
              rw [dropN h1] at e
              refine ev_next (f := fun k => (Q.virgationref09_Before.f k (a.getD i zN).f0 (a.getD i zN).f1 (b.getD j zN).f0 (b.getD j zN).f1).bind fun t => if t > 0 then Q.virgationref09_Union.l0 k a b (acc ++ [b.getD j zN]) (i : Int) ((j + 1 : Nat) : Int) else Q.virgationref09_Union.l0 k a b (acc ++ [a.getD i zN]) ((i + 1 : Nat) : Int) ((j + 1 : Nat) : Int)) (Ev.bind hbe ?_) fun k => ?_
              · have c3 : sgI (befI (a.getD i zN) (b.getD j zN)) > 0 := (sgI_pos _).2 c2
                simp only [if_pos c3]
                simpa using e
              · simp only [Q.virgationref09_Union.j2]
                rw [if_neg (by simp), if_neg (by omega), if_pos (by omega), if_pos (by omega), if_pos (by omega), if_pos (by omega), rdN_at, rdN_at, wrap_succ (by omega) (by omega), wrap_succ (by omega) (by omega), if_pos (by omega), if_pos (by omega)]
                rfl
            · rw [if_neg c2]
              have e : Ev (fun k => Q.virgationref09_Union.l0 k a b (acc ++ [a.getD i zN]) ((i + 1 : Nat) : Int) ((j + 1 : Nat) : Int)) ((acc ++ [a.getD i zN]) ++ unionN (a.drop (i + 1)) (b.drop (j + 1))) := by
                exact ih (i + 1) (j + 1) _ (by omega) (by omega) (by omega) (by rw [List.length_append, List.length_singleton]; omega)
              refine ev_next (f := fun k => (Q.virgationref09_Before.f k (a.getD i zN).f0 (a.getD i zN).f1 (b.getD j zN).f0 (b.getD j zN).f1).bind fun t => if t > 0 then Q.virgationref09_Union.l0 k a b (acc ++ [b.getD j zN]) (i : Int) ((j + 1 : Nat) : Int) else Q.virgationref09_Union.l0 k a b (acc ++ [a.getD i zN]) ((i + 1 : Nat) : Int) ((j + 1 : Nat) : Int)) (Ev.bind hbe ?_) fun k => ?_
              · have c3 : ¬ sgI (befI (a.getD i zN) (b.getD j zN)) > 0 := fun h => c2 ((sgI_pos _).1 h)
                simp only [if_neg c3]
                simpa using e
              · simp only [Q.virgationref09_Union.j2]
                rw [if_neg (by simp), if_neg (by omega), if_pos (by omega), if_pos (by omega), if_pos (by omega), if_pos (by omega), rdN_at, rdN_at, wrap_succ (by omega) (by omega), wrap_succ (by omega) (by omega), if_pos (by omega), if_pos (by omega)]
                rfl
        refine ev_next (f := fun k => (Q.virgationref09_Before.f k (a.getD i zN).f0 (a.getD i zN).f1 (b.getD j zN).f0 (b.getD j zN).f1).bind fun t => Q.virgationref09_Union.j2 k a b acc (i : Int) (j : Int) (decide (t < 0))) (Ev.bind hbe go) fun k => ?_
        simp only [Q.virgationref09_Union.j1]
        rw [if_pos trivial, if_neg (by omega), if_pos (by omega), if_pos (by omega), if_pos (by omega), if_pos (by omega), rdN_at, rdN_at]
      · refine start _ ?_
        rw [List.drop_eq_nil_of_le (show b.length ≤ j by omega)] at j2t ⊢
        rw [unionN_nil] at j2t ⊢
        refine ev_next (f := fun k => Q.virgationref09_Union.j2 k a b acc (i : Int) (j : Int) true) ?_ fun k => ?_
        · rw [dropN h1]
          simpa using j2t
        · simp only [Q.virgationref09_Union.j1]
          rw [if_pos trivial, if_pos (by omega)]
    · have h2 : j < b.length := by omega
      rw [List.drop_eq_nil_of_le (show a.length ≤ i by omega), unionN]
      have e := addB h2
      rw [List.drop_eq_nil_of_le (show a.length ≤ i by omega), unionN] at e
      have j2f : Ev (fun k => Q.virgationref09_Union.j2 k a b acc (i : Int) (j : Int) false) ((acc ++ [b.getD j zN]) ++ b.drop (j + 1)) := by
        refine ev_next e fun k => ?_
        simp only [Q.virgationref09_Union.j2]
        rw [if_neg (by simp), if_pos (by omega), if_pos (by omega), if_pos (by omega), if_pos (by omega), rdN_at, wrap_succ (by omega) (by omega)]
        rfl
      have j1e : Ev (fun k => Q.virgationref09_Union.j1 k a b acc (i : Int) (j : Int) true) ((acc ++ [b.getD j zN]) ++ b.drop (j + 1)) := by
        refine ev_next j2f fun k => ?_
        simp only [Q.virgationref09_Union.j1]
        rw [if_pos trivial, if_neg (by omega), if_neg (by omega)]
      rw [dropN h2]
      refine ev_next (f := fun k => Q.virgationref09_Union.j1 k a b acc (i : Int) (j : Int) true) (by simpa using j1e) fun k => ?_
      simp only [Q.virgationref09_Union.l0]
      rw [if_neg (by omega), decide_eq_true (by omega)]
theorem unionR_calls (a b : List Nd) (A : Option Addr) (c : Nat) (B : Option Addr) (d : Nat) (w : World) (hA : Kd.C Q.k83 w A a.length a) (hc : a.length ≤ c) (hB : Kd.C Q.k83 w B b.length b) (hd : b.length ≤ d) (ha : a.length ≤ 1000) (hb : b.length ≤ 1000) :
    Calls Tryz.prog 99 #[.slice A a.length c, .slice B b.length d] w fun E w' => ∃ v, E = .returned v ∧ Kd.R Q.k83 83 w' w.heap.size (fun k => w.heap.size ≤ k) v (unionN a b) ∧ Below w.heap.size w w' := by
  have h := unionR_ev a b ha hb _ 0 0 [] (Nat.le_refl _) (Nat.zero_le _) (Nat.zero_le _) (Nat.le_refl _)
  rw [List.drop_zero, List.drop_zero, List.nil_append] at h
  obtain ⟨k, hk⟩ := h.rounds
  refine (Q.virgationref09_Union.calls k A c a B d b _ w hA hc hB hd hk).mono ?_
  rintro E w' ⟨v, rfl, hR, hb⟩
  exact ⟨v, rfl, Kd.R_mono (Kd.R_bound hR) (fun k hk => hk.2.1), hb⟩
end Go.Proofs.YtbmcigakiibncaaGreatDoor.H
namespace Go.Proofs.YtbmcigakiibncaaGreatDoor.H
open Go.RowKit Go.Proofs.YtbmcigakiibncaaGreatDoorW.PrintWords Go.Proofs.YtbmcigakiibncaaGreatDoorW.PrintLast Go.Proofs.YtbmcigakiibncaaGreatDoorW.PrintMore
set_option linter.unusedVariables false
set_option linter.unusedSimpArgs false
abbrev Hd := Option Addr × Nat × Nat
def encH (p : Hd) : Value := .slice p.1 p.2.1 p.2.2
def kH : Kd Hd := Kd.scalar encH (fun _ => rfl)
def zH : Hd := (none, 0, 0)
def Rel (P : Hd → List Nd → Prop) (hs : List Hd) (xs : List (List Nd)) : Prop := hs.length = xs.length ∧ ∀ j, j < xs.length → P (hs.getD j zH) (xs.getD j [])
theorem Rel.nil (P : Hd → List Nd → Prop) : Rel P [] [] := ⟨rfl, fun j h => absurd h (Nat.not_lt_zero _)⟩
theorem getD_snoc {α : Type} (l : List α) (x d : α) (q : Nat) : (l ++ [x]).getD q d = if q = l.length then x else l.getD q d := getD_app l x d q
theorem Rel.snoc {P : Hd → List Nd → Prop} {hs : List Hd} {xs : List (List Nd)} {h : Hd} {x : List Nd} (hr : Rel P hs xs) (hp : P h x) : Rel P (hs ++ [h]) (xs ++ [x]) := by
  refine ⟨by rw [List.length_append, List.length_append, hr.1]; rfl, fun j hj => ?_⟩
  rw [List.length_append, List.length_singleton] at hj
  rw [getD_snoc, getD_snoc, hr.1]
  split
  · exact hp
  · exact hr.2 j (by omega)
theorem Rel.imp {P P' : Hd → List Nd → Prop} {hs : List Hd} {xs : List (List Nd)} (hr : Rel P hs xs) (h : ∀ a b, P a b → P' a b) : Rel P' hs xs := ⟨hr.1, fun j hj => h _ _ (hr.2 j hj)⟩
def CP (w : World) (h : Hd) (x : List Nd) : Prop := h.2.1 = x.length ∧ x.length ≤ h.2.2 ∧ Kd.C Q.k83 w h.1 x.length x
def RP (w : World) (b0 : Nat) (ok : Nat → Prop) (h : Hd) (x : List Nd) : Prop := Kd.R Q.k83 83 w b0 ok (encH h) x
theorem C_of_heads {w W : World} {v : Value} {hs : List Hd} {xs : List (List Nd)} {base : Nat} {ok : Nat → Prop} (hR : kH.R 69 W base ok v hs) (hrel : Rel (CP w) hs xs) (hb : Below w.heap.size w W) : ∃ A c, v = .slice A xs.length c ∧ xs.length ≤ c ∧ Kd.C kA1 W A xs.length xs := by
  obtain ⟨A, c, rfl, hl, hC⟩ := Kd.R_reads hR
  rw [hrel.1] at hl hC ⊢
  refine ⟨A, c, rfl, hl, rfl, hC.2.1, fun h0 => ?_⟩
  obtain ⟨ad, e, hc⟩ := hC.2.2 h0
  refine ⟨ad, e, fun j p hj => ?_⟩
  have hlt := (List.getElem?_eq_some_iff.1 hj).1
  have hp : xs.getD j [] = p := by rw [List.getD_eq_getElem?_getD, hj]; rfl
  have hlt2 : j < hs.length := by rw [hrel.1]; exact hlt
  have hh : hs[j]? = some (hs.getD j zH) := by rw [List.getD_eq_getElem?_getD, List.getElem?_eq_getElem hlt2]; rfl
  obtain ⟨cs, h1, h2, h3⟩ := hc j _ hh
  obtain ⟨q1, q2, q3⟩ := hrel.2 j hlt
  rw [hp] at q1 q2 q3
  refine ⟨cs, h1, ?_, h3⟩
  have h2' : cs = [encH (hs.getD j zH)] := h2
  refine ⟨(hs.getD j zH).1, (hs.getD j zH).2.2, ?_, q2, Kd.C_below q3 hb⟩
  rw [h2', ← q1]; rfl
theorem R_of_heads {w W : World} {v : Value} {hs : List Hd} {xs : List (List Nd)} {b0 : Nat} {ok : Nat → Prop} (hR : kH.R 69 W w.heap.size (fun k => w.heap.size ≤ k) v hs) (hrel : Rel (RP w b0 ok) hs xs) (hb : Below w.heap.size w W) (h0 : b0 ≤ w.heap.size) (hok : ∀ k, w.heap.size ≤ k → ok k) : kA1.R 69 W b0 ok v xs := by
  obtain ⟨h1, inner, ho, hr⟩ := hR
  refine ⟨fun k hk => hok k (h1 k hk), inner, ?_, ?_⟩
  · rw [← hrel.1]; exact own_weaken ho h0
  · refine ⟨by rw [hr.1, hrel.1]; rfl, fun j p hj => ?_⟩
    have hlt := (List.getElem?_eq_some_iff.1 hj).1
    have hp : xs.getD j [] = p := by rw [List.getD_eq_getElem?_getD, hj]; rfl
    have hlt2 : j < hs.length := by rw [hrel.1]; exact hlt
    have hh : hs[j]? = some (hs.getD j zH) := by rw [List.getD_eq_getElem?_getD, List.getElem?_eq_getElem hlt2]; rfl
    have h2 := hr.2 j _ hh
    have q := hrel.2 j hlt
    rw [hp] at q
    refine ⟨encH (hs.getD j zH), h2, ?_⟩
    refine Kd.R_mono (Kd.R_below (Kd.R_bound q) hb) (fun k hk => ⟨hk.1, fun e => ?_⟩)
    have h5 := h1 k e.symm
    have h6 := hk.2.2.1
    omega
def smallTo (xs : List (List Nd)) (i : Nat) : List (List Nd) := ((List.range i).filter (keepB xs)).map fun i => xs.getD i []
theorem smallTo_succ (xs : List (List Nd)) (i : Nat) : smallTo xs (i + 1) = smallTo xs i ++ (if keepB xs i = true then [xs.getD i []] else []) := by
  unfold smallTo
  rw [List.range_succ, List.filter_append, List.map_append]
  congr 1
  rw [List.filter_cons]
  split <;> rfl
def keepTo (xs : List (List Nd)) (i j : Nat) : Bool := (List.range j).all fun k => decide (i = k) || !withinN (xs.getD k []) (xs.getD i [])
theorem keepTo_succ (xs : List (List Nd)) (i j : Nat) : keepTo xs i (j + 1) = (keepTo xs i j && (decide (i = j) || !withinN (xs.getD j []) (xs.getD i []))) := by
  unfold keepTo
  rw [List.range_succ, List.all_append]; simp
set_option maxHeartbeats 8000000 in
set_option maxRecDepth 100000 in
theorem smallest_calls (P : Hd → List Nd → Prop) (xs : List (List Nd)) (A : Option Addr) (c : Nat) (w : World) (hC : Kd.C kA1 w A xs.length xs) (hl : xs.length ≤ 20000000) (hx : ∀ x ∈ xs, x.length ≤ 1000)
    (hP : ∀ i, i < xs.length → ∀ (ad : Addr) (A1 : Option Addr) (n1 c1 : Nat), A = some ad → w.cell? (ad.add i) = some (.slice A1 n1 c1) → P (A1, n1, c1) (xs.getD i [])) :
    Calls Tryz.prog 48 #[.slice A xs.length c] w fun E w' => ∃ v hs, E = .returned v ∧ kH.R 69 w' w.heap.size (fun k => w.heap.size ≤ k) v hs ∧ Rel P hs (smallest xs) ∧ Below w.heap.size w w' := by
  have HC := Aside0.mk hC
  have HL := Aside0.mk hl
  have HX := Aside0.mk hx
  have HP := Aside0.mk hP
  clear hC hl hx hP
  go_enter Tryz.func48, Tryz.ntmps48
  go_wp2
  go_loopg [11, 3] xs.length (fun gg v11 v3 wi => ∃ (i : Nat) (hs : List Hd) (vk : Value), i ≤ xs.length ∧ xs.length - i ≤ gg ∧ v11 = .int .i64 i ∧ v3 = vk ∧ Aside0 (kH.R 69 wi w.heap.size (fun k => w.heap.size ≤ k) vk hs) ∧ Aside0 (Rel P hs (smallTo xs i)) ∧ Aside0 (Below w.heap.size w wi) ∧ Aside0 (hs.length ≤ i))
  case atStart => exact ⟨0, [], _, Nat.zero_le _, Nat.le_refl _, rfl, rfl, ⟨Kd.R_nil _ _ _ _ _⟩, ⟨Rel.nil P⟩, ⟨Below.refl _ _⟩, ⟨Nat.le_refl _⟩⟩
  case round =>
    obtain ⟨i, hs, vk, hi, hgg, rfl, rfl, HR, HREL, HB, HHL⟩ := hrel
    obtain ⟨A9, c9, e9⟩ := Kd.R_slice HR.out
    subst e9
    by_cases hlt : i < xs.length
    · have hltz : (i : Int) < (xs.length : Int) := by omega
      have HLT := Aside0.mk hlt
      have HKI := Aside0.mk (show wrap64 ((i : Int) + 1) = ((i + 1 : Nat) : Int) by rw [wr_id (by omega) (by have := HL.out; omega)]; rfl)
      obtain ⟨ad, A1, c1, e, hk, hl1, hC1⟩ := at_sl HC.out i hlt
      subst e
      have HPI := Aside0.mk ((HP.out) i hlt ad A1 _ c1 rfl hk)
      replace hk := pw_cell_below HB.out hk
      have HC1 := Aside0.mk hC1
      have HL1 := Aside0.mk hl1
      have HX1 := Aside0.mk ((HX.out) _ (getD_memX [] hlt))
      have HSS := Aside0.mk (smallTo_succ xs i)
      have HKB := Aside0.mk (show keepB xs i = keepTo xs i xs.length from rfl)
      have HKS := Aside0.mk (keepTo_succ xs i)
      have HK0 := Aside0.mk (show keepTo xs i 0 = true from rfl)
      generalize hxe : xs.getD i [] = x at *
      clear hxe hC1 hl1 hi hlt
      go_wp2
      clear hk
      go_loopg [18, 6] xs.length (fun gg v18 v6 wi => ∃ (j : Nat), j ≤ xs.length ∧ xs.length - j ≤ gg ∧ v18 = .int .i64 j ∧ v6 = .bool (keepTo xs i j) ∧ Aside0 (kH.R 69 wi w.heap.size (fun k => w.heap.size ≤ k) (.slice A9 hs.length c9) hs) ∧ Aside0 (Below w.heap.size w wi))
      case atStart => exact ⟨0, Nat.zero_le _, Nat.le_refl _, rfl, by rw [HK0.out], HR, HB⟩
      case round =>
        clear HR HB
        obtain ⟨j, hj, hgg2, rfl, rfl, HR, HB⟩ := hrel
        by_cases hltj : j < xs.length
        · have hltjz : (j : Int) < (xs.length : Int) := by omega
          have HLJ := Aside0.mk hltj
          have HKJ := Aside0.mk (show wrap64 ((j : Int) + 1) = ((j + 1 : Nat) : Int) by rw [wr_id (by omega) (by have := HL.out; omega)]; rfl)
          obtain ⟨ad2, A2, c2, e, hk, hl2, hC2⟩ := at_sl HC.out j hltj
          injection e with e
          subst e
          replace hk := pw_cell_below HB.out hk
          have HW := Aside0.mk (withinR_calls (xs.getD j []) x A2 c2 A1 c1 wr (Kd.C_below hC2 HB.out) hl2 (Kd.C_below HC1.out HB.out) HL1.out ((HX.out) _ (getD_memX [] hltj)) HX1.out)
          have HS := Aside0.mk ((HKS.out) j)
          generalize xs.getD j [] = y at *
          generalize keepTo xs i j = kp at *
          clear hC2 hl2 hj hltj
          cases kp with
          | false =>
            go_wp2
            go_roundg (xs.length - (j + 1))
            case measure => have := HLJ.out; omega
            case rel => exact ⟨j + 1, HLJ.out, Nat.le_refl _, by rw [HKJ.out], by rw [HS.out]; rfl, HR, HB⟩
          | true =>
            by_cases hij : i = j
            · subst hij
              go_wp2
              go_roundg (xs.length - (i + 1))
              case measure => have := HLJ.out; omega
              case rel => exact ⟨i + 1, HLJ.out, Nat.le_refl _, by rw [HKJ.out], by rw [HS.out]; simp, HR, HB⟩
            · have e1 : ((i : Int) == (j : Int)) = false := beq_eq_false_iff_ne.2 (by omega)
              have e2 : (i == j) = false := beq_eq_false_iff_ne.2 hij
              have HD := Aside0.mk (show decide (i = j) = false from decide_eq_false hij)
              clear hij
              go_wp2_with fail
              refine (HW.out).mono ?_
              rintro E w4 ⟨rfl, hb⟩
              have HR4 := Aside0.mk (Kd.R_below HR.out hb)
              have HB4 := Aside0.mk (below_then HB.out (HB.out).size hb)
              clear hb HR HB HW e1 e2 hk
              go_wp2
              go_roundg (xs.length - (j + 1))
              case measure => have := HLJ.out; omega
              case rel => exact ⟨j + 1, HLJ.out, Nat.le_refl _, by rw [HKJ.out], by rw [HS.out, HD.out]; rfl, HR4, HB4⟩
        · obtain rfl : j = xs.length := by omega
          rw [← HKB.out]
          clear hj hgg2 hltj
          cases hkeep : keepB xs i with
          | false =>
            rw [hkeep] at HSS
            clear hkeep
            go_wp2
            go_roundg (xs.length - (i + 1))
            case measure => have := HLT.out; omega
            case rel => exact ⟨i + 1, hs, _, HLT.out, Nat.le_refl _, by rw [HKI.out], rfl, HR, ⟨by rw [HSS.out]; simpa using HREL.out⟩, HB, ⟨Nat.le_succ_of_le HHL.out⟩⟩
          | true =>
            rw [hkeep] at HSS
            clear hkeep
            go_wp2_with ((with_reducible refine gate_builtin (b := .append) (xs := #[.tmp 37, .tmp 39]) rfl ?_); at_builtin; refine Kd.R_append kH (w0 := w) w.heap.size rfl (.tmp 37) (.tmp 39) 66 69 (.slice none 0 0) 24 rfl Tryz.underlying66 Q.info69 rfl (show 0 < 1 by decide) (by decide) (.slice A9 hs.length c9) hs (A1, x.length, c1) [.slice A1 x.length c1] (fun k => w.heap.size ≤ k) (fun _ => False) rfl rfl rfl (fun _ hk => hk.elim) (fun k hk => Nat.le_trans (HB.out).size hk) HR.out HB.out (HB.out).size (by have := HHL.out; have := HL.out; have := HLT.out; omega) ?_; intro v5 w5 ho5 hb5 hg5 hat5; have HR5 := Aside0.mk ho5; have HB5 := Aside0.mk hb5; clear ho5 hb5 hg5 hat5)
            go_roundg (xs.length - (i + 1))
            case measure => have := HLT.out; omega
            case rel => exact ⟨i + 1, hs ++ [(A1, x.length, c1)], _, HLT.out, Nat.le_refl _, by rw [HKI.out], rfl, HR5, ⟨by rw [HSS.out]; simp only [if_true]; exact (HREL.out).snoc HPI.out⟩, HB5, ⟨by rw [List.length_append, List.length_singleton]; have := HHL.out; omega⟩⟩
    · obtain rfl : i = xs.length := by omega
      have HF := Aside0.mk (show smallest xs = smallTo xs xs.length from rfl)
      clear hi hgg hlt
      go_wp2
      go_ret
      exact ⟨_, hs, rfl, HR.out, by rw [HF.out]; exact HREL.out, HB.out⟩
end Go.Proofs.YtbmcigakiibncaaGreatDoor.H
namespace Go.Proofs.YtbmcigakiibncaaGreatDoor.H
open Go.RowKit Go.Proofs.YtbmcigakiibncaaGreatDoorW.PrintWords Go.Proofs.YtbmcigakiibncaaGreatDoorW.PrintLast Go.Proofs.YtbmcigakiibncaaGreatDoorW.PrintMore
set_option linter.unusedVariables false
set_option linter.unusedSimpArgs false
theorem at_head {w : World} {A : Option Addr} {hs : List Hd} {xs : List (List Nd)} (hH : Kd.C kH w A hs.length hs) (hrel : Rel (CP w) hs xs) {i : Nat} (hi : i < hs.length) :
    ∃ ad A1 c1, A = some ad ∧ hs.getD i zH = (A1, (xs.getD i []).length, c1) ∧ w.cell? (ad.add i) = some (.slice A1 (xs.getD i []).length c1) ∧ (xs.getD i []).length ≤ c1 ∧ Kd.C Q.k83 w A1 (xs.getD i []).length (xs.getD i []) := by
  obtain ⟨ad, cs, e, _, hK, hc0⟩ := Kd.C_get hH zH (i : Int) (by omega) (by omega)
  rw [Int.toNat_natCast] at hK
  have hK' : cs = [encH (hs.getD i zH)] := hK
  subst hK'
  have h0 := hc0 0 _ rfl
  rw [Int.toNat_natCast, show kH.sz = 1 from rfl, Nat.mul_one, Nat.add_zero] at h0
  obtain ⟨q1, q2, q3⟩ := hrel.2 i (by rw [← hrel.1]; exact hi)
  refine ⟨ad, (hs.getD i zH).1, (hs.getD i zH).2.2, e, ?_, ?_, q2, q3⟩
  · rw [← q1]
  · rw [h0, ← q1]; rfl
theorem heads_C {w : World} {A : Option Addr} {hs : List Hd} {xs : List (List Nd)} (hH : Kd.C kH w A hs.length hs) (hrel : Rel (CP w) hs xs) : Kd.C kA1 w A xs.length xs := by
  refine ⟨rfl, by rw [← hrel.1]; exact hH.2.1, fun h0 => ?_⟩
  obtain ⟨ad, e, _⟩ := hH.2.2 (by rw [hrel.1]; exact h0)
  subst e
  refine ⟨ad, rfl, fun j p hj => ?_⟩
  have hlt := (List.getElem?_eq_some_iff.1 hj).1
  have hp : xs.getD j [] = p := by rw [List.getD_eq_getElem?_getD, hj]; rfl
  obtain ⟨ad2, A1, c1, e, _, h1, h2, h3⟩ := at_head hH hrel (i := j) (by rw [hrel.1]; exact hlt)
  injection e with e
  subst e
  rw [hp] at h1 h2 h3
  refine ⟨[.slice A1 p.length c1], rfl, ⟨A1, c1, rfl, h2, h3⟩, fun i u hu => ?_⟩
  have hi : i = 0 := by have := (List.getElem?_eq_some_iff.1 hu).1; simpa using this
  subst hi
  obtain rfl : Value.slice A1 p.length c1 = u := by simpa using hu
  rw [show kA1.sz = 1 from rfl, Nat.mul_one, Nat.add_zero]
  exact h1
theorem Rel.take {P : Hd → List Nd → Prop} {hs : List Hd} {xs : List (List Nd)} (h : Rel P hs xs) (k : Nat) : Rel P (hs.take k) (xs.take k) := by
  refine ⟨by rw [List.length_take, List.length_take, h.1], fun j hj => ?_⟩
  rw [List.length_take] at hj
  rw [List.getD_eq_getElem?_getD, List.getD_eq_getElem?_getD, List.getElem?_take_of_lt (by omega), List.getElem?_take_of_lt (by omega), ← List.getD_eq_getElem?_getD, ← List.getD_eq_getElem?_getD]
  exact h.2 j (by omega)
theorem Rel.drop {P : Hd → List Nd → Prop} {hs : List Hd} {xs : List (List Nd)} (h : Rel P hs xs) (k : Nat) : Rel P (hs.drop k) (xs.drop k) := by
  refine ⟨by rw [List.length_drop, List.length_drop, h.1], fun j hj => ?_⟩
  rw [List.length_drop] at hj
  rw [List.getD_eq_getElem?_getD, List.getD_eq_getElem?_getD, List.getElem?_drop, List.getElem?_drop, ← List.getD_eq_getElem?_getD, ← List.getD_eq_getElem?_getD]
  exact h.2 (k + j) (by omega)
theorem Rel.append {P : Hd → List Nd → Prop} {hs hs' : List Hd} {xs xs' : List (List Nd)} (h : Rel P hs xs) (h' : Rel P hs' xs') : Rel P (hs ++ hs') (xs ++ xs') := by
  refine ⟨by rw [List.length_append, List.length_append, h.1, h'.1], fun j hj => ?_⟩
  rw [List.length_append] at hj
  rw [List.getD_eq_getElem?_getD, List.getD_eq_getElem?_getD]
  by_cases hlt : j < xs.length
  · rw [List.getElem?_append_left (by rw [h.1]; exact hlt), List.getElem?_append_left hlt, ← List.getD_eq_getElem?_getD, ← List.getD_eq_getElem?_getD]
    exact h.2 j hlt
  · rw [List.getElem?_append_right (by rw [h.1]; omega), List.getElem?_append_right (by omega), h.1, ← List.getD_eq_getElem?_getD, ← List.getD_eq_getElem?_getD]
    exact h'.2 (j - xs.length) (by omega)
theorem Rel.one {P : Hd → List Nd → Prop} {h : Hd} {x : List Nd} (hp : P h x) : Rel P [h] [x] := by
  have := (Rel.nil P).snoc hp
  simpa using this
def posA : List (List Nd) → List Nd → Nat
  | [], _ => 0
  | y :: r, x => if cmpL y x < 0 then posA r x + 1 else 0
theorem posA_le : ∀ (l : List (List Nd)) (x : List Nd), posA l x ≤ l.length
  | [], x => Nat.le_refl _
  | y :: r, x => by rw [posA]; split <;> simp; exact posA_le r x
theorem posA_lt : ∀ (l : List (List Nd)) (x : List Nd) (i : Nat), i < posA l x → cmpL (l.getD i []) x < 0
  | [], x, i, h => absurd h (Nat.not_lt_zero _)
  | y :: r, x, i, h => by
    rw [posA] at h
    split at h
    · rename_i hc
      cases i with
      | zero => exact hc
      | succ i => exact posA_lt r x i (by omega)
    · exact absurd h (Nat.not_lt_zero _)
theorem posA_at : ∀ (l : List (List Nd)) (x : List Nd), posA l x < l.length → ¬ cmpL (l.getD (posA l x) []) x < 0
  | [], x, h => absurd h (Nat.not_lt_zero _)
  | y :: r, x, h => by
    rw [posA] at h ⊢
    split
    · rename_i hc
      rw [if_pos hc] at h
      exact posA_at r x (by simpa using h)
    · rename_i hc
      exact hc
def insB (l : List (List Nd)) (x : List Nd) : Bool := decide (posA l x = l.length) || decide (0 < cmpL (l.getD (posA l x) []) x)
theorem insertA_pos : ∀ (l : List (List Nd)) (x : List Nd), insertA l x = l.take (posA l x) ++ ((if insB l x = true then [x] else []) ++ l.drop (posA l x))
  | [], x => by simp [insertA, posA, insB]
  | y :: r, x => by
    have ih := insertA_pos r x
    rw [insertA]
    by_cases hc : cmpL y x < 0
    · have hp : posA (y :: r) x = posA r x + 1 := by rw [posA, if_pos hc]
      have hi : insB (y :: r) x = insB r x := by unfold insB; rw [hp, List.getD_cons_succ, List.length_cons]; congr 1; simp
      rw [if_pos hc, hp, hi, List.take_succ_cons, List.drop_succ_cons, List.cons_append, ← ih]
    · have hp : posA (y :: r) x = 0 := by rw [posA, if_neg hc]
      have hi : insB (y :: r) x = decide (0 < cmpL y x) := by unfold insB; rw [hp]; simp
      rw [if_neg hc, hp, hi, List.take_zero, List.nil_append, List.drop_zero]
      by_cases h2 : 0 < cmpL y x
      · rw [if_pos h2, decide_eq_true h2, if_pos rfl]; rfl
      · rw [if_neg h2, decide_eq_false h2]; rfl
theorem cut_heads (A : Option Addr) (n c m : Nat) (hm : m ≤ n) (hc : n ≤ c) :
    ∃ A' : Option Addr, (∀ W : World, (Instr.slice 66 (.slice A n c) (some (.int .i64 (m : Int))) none none).run Tryz.prog W = .ok (.slice A' (n - m) (c - m)) W) ∧
      ∀ (w : World) (hs : List Hd), hs.length = n → Kd.C kH w A hs.length hs → Kd.C kH w A' (hs.drop m).length (hs.drop m) := by
  obtain ⟨i, hi, hz⟩ := Option.map_eq_some_iff.1 Q.info69
  simp only [Prod.mk.injEq] at hz
  refine ⟨if c = m then A else A.map (·.add m), fun W => ?_, fun w hs hn h => ?_⟩
  · have hel : Tryz.prog.elem 66 = 69 := by simp [Program.elem, Tryz.underlying66]
    have hu : Tryz.prog.underlying 66 = some (.slice (Tryz.prog.elem 66)) := by rw [hel]; exact Tryz.underlying66
    rw [run_slice_l W 66 A n c hu .i64 (m : Int) (Int.natCast_nonneg _) (by omega), hel]
    simp [sizeOf, typeInfo, hi, hz.2.1, sliced, Result.andThen]
  · have := Kd.C_drop h (m := m) (c := c) (by omega) (by omega)
    rw [show kH.sz = 1 from rfl, Nat.mul_one] at this
    exact this
set_option maxHeartbeats 8000000 in
set_option maxRecDepth 100000 in
theorem insert_calls (P : Hd → List Nd → Prop) (hs : List Hd) (xs : List (List Nd)) (A : Option Addr) (c : Nat) (B : Option Addr) (x : List Nd) (d : Nat) (w : World)
    (hH : Kd.C kH w A hs.length hs) (hc : hs.length ≤ c) (hrel : Rel (CP w) hs xs) (hrelP : Rel P hs xs) (hB : Kd.C Q.k83 w B x.length x) (hd : x.length ≤ d) (hp : P (B, x.length, d) x) (hl : xs.length ≤ 20000000) :
    Calls Tryz.prog 98 #[.slice A hs.length c, .slice B x.length d] w fun E w' => ∃ v hs', E = .returned v ∧ kH.R 69 w' w.heap.size (fun k => w.heap.size ≤ k) v hs' ∧ Rel P hs' (insertA xs x) ∧ Below w.heap.size w w' := by
  obtain ⟨Ac, hcut0, hcutC⟩ := cut_heads A hs.length c (posA xs x) (by rw [hrel.1]; exact posA_le xs x) hc
  have HCUT := Aside0.mk (hcutC w hs rfl hH)
  have HAT := Aside0.mk fun (i : Nat) (hi : i < hs.length) => at_head hH hrel hi
  have HN := Aside0.mk hrel.1
  have HRP := Aside0.mk hrelP
  have HBX := Aside0.mk hB
  have HD := Aside0.mk hd
  have HP := Aside0.mk hp
  have HL := Aside0.mk hl
  have HPLE := Aside0.mk (show posA xs x ≤ hs.length by rw [hrel.1]; exact posA_le xs x)
  have HPLT := Aside0.mk (posA_lt xs x)
  have HPAT := Aside0.mk (posA_at xs x)
  have HPOS := Aside0.mk (insertA_pos xs x)
  have HINS := Aside0.mk (show insB xs x = (decide (posA xs x = hs.length) || decide (0 < cmpL (xs.getD (posA xs x) []) x)) by unfold insB; rw [hrel.1])
  rw [← hrel.1] at HPAT
  have HCX := Aside0.mk hcut0
  clear hH hc hrel hrelP hB hd hp hl hcut0 hcutC
  generalize posA xs x = p at *
  generalize insB xs x = ib at *
  go_enter Tryz.func98, Tryz.ntmps98
  go_upto_block 0 with (fail)
  go_cut [5, 6] (fun v5 v6 wx => ∃ (A9 : Option Addr) (c9 : Nat), v6 = .int .i64 p ∧ v5 = .slice A9 p c9 ∧ Aside0 (kH.R 69 wx w.heap.size (fun k => w.heap.size ≤ k) (.slice A9 p c9) (hs.take p)) ∧ Aside0 (Below w.heap.size w wx))
  case first =>
    go_wp2_with fail
    go_loopg [6, 5] hs.length (fun gg v6 v5 wi => ∃ (i : Nat) (A9 : Option Addr) (c9 : Nat), i ≤ p ∧ hs.length - i ≤ gg ∧ v6 = .int .i64 i ∧ v5 = .slice A9 i c9 ∧ Aside0 (kH.R 69 wi w.heap.size (fun k => w.heap.size ≤ k) (.slice A9 i c9) (hs.take i)) ∧ Aside0 (Below w.heap.size w wi))
    case atStart => exact ⟨0, none, 0, Nat.zero_le _, Nat.le_refl _, rfl, rfl, ⟨Kd.R_nil _ _ _ _ _⟩, ⟨Below.refl _ _⟩⟩
    case round =>
      obtain ⟨i, A9, c9, hi, hgg, rfl, rfl, HR, HB⟩ := hrel
      have HII := Aside0.mk hi
      have HTL := Aside0.mk (show (hs.take i).length = i by rw [List.length_take]; have := HPLE.out; omega)
      by_cases hlt : i < hs.length
      · have hltz : (i : Int) < (hs.length : Int) := by omega
        have HLT := Aside0.mk hlt
        obtain ⟨ad, A1, c1, e, he, hk, hl1, hC1⟩ := HAT.out i hlt
        subst e
        replace hk := pw_cell_below HB.out hk
        have HHE := Aside0.mk he
        have HCM := Aside0.mk (compareC_calls (xs.getD i []) x A1 c1 B d wr (Kd.C_below hC1 HB.out) hl1 (Kd.C_below HBX.out HB.out) HD.out)
        have HNEG := Aside0.mk (sgI_neg (cmpL (xs.getD i []) x))
        have HKI := Aside0.mk (show wrap64 ((i : Int) + 1) = ((i + 1 : Nat) : Int) by rw [wr_id (by omega) (by have := HL.out; have := HN.out; omega)]; rfl)
        have HLI := Aside0.mk (HPLT.out i)
        have HAI := Aside0.mk (fun (e : p = i) => (show 0 ≤ cmpL (xs.getD i []) x by subst e; have h9 := HPAT.out hlt; omega))
        clear hC1 hl1 he hlt hi
        generalize xs.getD i [] = y at *
        generalize cmpL y x = z at *
        go_wp2_with fail
        refine (HCM.out).mono ?_
        rintro E w4 ⟨rfl, hb⟩
        have HR4 := Aside0.mk (Kd.R_below HR.out hb)
        have HB4 := Aside0.mk (below_then HB.out (HB.out).size hb)
        replace hk := pw_cell_below hb hk
        clear hb HR HB HCM
        by_cases hip : i < p
        · have e1 : decide (sgI z < 0) = true := decide_eq_true ((HNEG.out).2 (HLI.out hip))
          have HIP := Aside0.mk hip
          generalize sgI z = q at *
          have HTK := Aside0.mk (show hs.take (i + 1) = hs.take i ++ [hs.getD i zH] by rw [List.take_add_one, List.getElem?_eq_getElem HLT.out, List.getD_eq_getElem?_getD, List.getElem?_eq_getElem HLT.out]; rfl)
          clear hip
          go_wp2_with ((with_reducible refine gate_builtin (b := .append) (xs := #[.tmp 20, .tmp 25]) rfl ?_); at_builtin; refine Kd.R_append kH (w0 := w) w.heap.size rfl (.tmp 20) (.tmp 25) 66 69 (.slice none 0 0) 24 rfl Tryz.underlying66 Q.info69 rfl (show 0 < 1 by decide) (by decide) (.slice A9 i c9) (hs.take i) (A1, y.length, c1) [.slice A1 y.length c1] (fun k => w.heap.size ≤ k) (fun _ => False) rfl rfl rfl (fun _ hk => hk.elim) (fun k hk => Nat.le_trans (HB4.out).size hk) HR4.out HB4.out (HB4.out).size (by rw [HTL.out]; have := HLT.out; have := HL.out; have := HN.out; omega) ?_; intro v5 w5 ho5 hb5 hg5 hat5; have HR5 := Aside0.mk ho5; have HB5 := Aside0.mk hb5; clear ho5 hb5 hg5 hat5)
          obtain ⟨A8, c8, e8⟩ := Kd.R_slice HR5.out
          rw [List.length_append, HTL.out, List.length_singleton] at e8
          subst e8
          go_roundg (hs.length - (i + 1))
          case measure => have := HLT.out; omega
          case rel => exact ⟨i + 1, A8, c8, HIP.out, Nat.le_refl _, by rw [HKI.out], rfl, ⟨by rw [HTK.out, HHE.out]; exact HR5.out⟩, HB5⟩
        · obtain rfl : i = p := by have := HII.out; omega
          have e1 : decide (sgI z < 0) = false := decide_eq_false (fun h => by have h8 := HAI.out rfl; have h9 := (HNEG.out).1 h; omega)
          generalize sgI z = q at *
          clear hip
          go_wp2
          go_meet
          exact ⟨A9, c9, rfl, rfl, HR4, HB4⟩
      · obtain rfl : i = p := by have := HII.out; have := HPLE.out; omega
        have hltz : ¬ (i : Int) < (hs.length : Int) := by omega
        clear hlt hi
        go_wp2
        go_meet
        exact ⟨A9, c9, rfl, rfl, HR, HB⟩
  case rest =>
  obtain ⟨A9, c9, rfl, rfl, HR, HB⟩ := hcut
  have HTL := Aside0.mk (show (hs.take p).length = p by rw [List.length_take]; have := HPLE.out; omega)
  go_upto_region 6 with (fail)
  go_cut [41] (fun v41 wx => v41 = .bool ib ∧ Aside0 (Below wc.heap.size wc wx))
  case first =>
    by_cases hpn : p = hs.length
    · have HV := Aside0.mk (show ib = true by rw [HINS.out, decide_eq_true hpn]; rfl)
      have e1 : ((p : Int) == (hs.length : Int)) = true := by rw [beq_iff_eq]; omega
      have e2 : (p == hs.length) = true := by rw [beq_iff_eq]; exact hpn
      clear hpn
      go_wp2
      go_meet
      exact ⟨by rw [HV.out], ⟨by first | exact Below.refl _ _ | (apply pw_below_drewN; exact Below.refl _ _)⟩⟩
    · have hlt : p < hs.length := by have := HPLE.out; omega
      have hltz : (p : Int) < (hs.length : Int) := by omega
      have e1 : ((p : Int) == (hs.length : Int)) = false := beq_eq_false_iff_ne.2 (by omega)
      have e2 : (p == hs.length) = false := beq_eq_false_iff_ne.2 hpn
      obtain ⟨ad, A1, c1, e, he, hk, hl1, hC1⟩ := HAT.out p hlt
      subst e
      replace hk := pw_cell_below HB.out hk
      have HV := Aside0.mk (show ib = decide (0 < cmpL (xs.getD p []) x) by rw [HINS.out, decide_eq_false hpn, Bool.false_or])
      have HCM := Aside0.mk (compareC_calls (xs.getD p []) x A1 c1 B d wc (Kd.C_below hC1 HB.out) hl1 (Kd.C_below HBX.out HB.out) HD.out)
      have HPS := Aside0.mk (sgI_pos (cmpL (xs.getD p []) x))
      clear hC1 hl1 he hpn hlt
      generalize xs.getD p [] = y at *
      generalize cmpL y x = z at *
      go_wp2_with fail
      refine (HCM.out).mono ?_
      rintro E w4 ⟨rfl, hb⟩
      have HB4 := Aside0.mk hb
      clear hb HCM hk
      have HV2 := Aside0.mk (show ib = decide (sgI z > 0) by rw [HV.out]; rw [Bool.eq_iff_iff, decide_eq_true_eq, decide_eq_true_eq]; exact (HPS.out).symm)
      generalize sgI z = q at *
      go_wp2
      go_meet
      exact ⟨by rw [HV2.out], HB4⟩
  case rest =>
  obtain ⟨rfl, HBx⟩ := hcut
  have HR2 := Aside0.mk (Kd.R_below HR.out HBx.out)
  have HB2 := Aside0.mk (below_then HB.out (HB.out).size HBx.out)
  clear HR HB HBx
  go_upto_if 41 with (fail)
  go_cut [5] (fun v5 wx => ∃ (A8 : Option Addr) (c8 : Nat) (hi : List Hd), v5 = .slice A8 hi.length c8 ∧ Aside0 (hi = hs.take p ++ (if ib = true then [(B, x.length, d)] else [])) ∧ Aside0 (kH.R 69 wx w.heap.size (fun k => w.heap.size ≤ k) (.slice A8 hi.length c8) hi) ∧ Aside0 (Below w.heap.size w wx))
  case first =>
    cases ib with
    | true =>
      go_wp2_with ((with_reducible refine gate_builtin (b := .append) (xs := #[.tmp 42, .tmp 44]) rfl ?_); at_builtin; refine Kd.R_append kH (w0 := w) w.heap.size rfl (.tmp 42) (.tmp 44) 66 69 (.slice none 0 0) 24 rfl Tryz.underlying66 Q.info69 rfl (show 0 < 1 by decide) (by decide) (.slice A9 p c9) (hs.take p) (B, x.length, d) [.slice B x.length d] (fun k => w.heap.size ≤ k) (fun _ => False) rfl rfl rfl (fun _ hk => hk.elim) (fun k hk => Nat.le_trans (HB2.out).size hk) HR2.out HB2.out (HB2.out).size (by rw [HTL.out]; have := HPLE.out; have := HL.out; have := HN.out; omega) ?_; intro v5 w5 ho5 hb5 hg5 hat5; have HR5 := Aside0.mk ho5; have HB5 := Aside0.mk hb5; clear ho5 hb5 hg5 hat5)
      obtain ⟨A8, c8, e8⟩ := Kd.R_slice HR5.out
      subst e8
      go_meet
      exact ⟨A8, c8, hs.take p ++ [(B, x.length, d)], rfl, ⟨rfl⟩, HR5, HB5⟩
    | false =>
      go_wp2
      go_meet
      exact ⟨A9, c9, hs.take p, by rw [HTL.out], ⟨by simp⟩, ⟨by rw [HTL.out]; exact HR2.out⟩, HB2⟩
  case rest =>
  obtain ⟨A8, c8, hi, rfl, HHI, HR5, HB5⟩ := hcut
  clear HR2 HB2
  have hcut0 := HCX.out
  have HDL := Aside0.mk (show hs.length - p = (hs.drop p).length by rw [List.length_drop])
  have HIL := Aside0.mk (show hi.length ≤ hs.length + 1 by rw [HHI.out, List.length_append, HTL.out]; have := HPLE.out; split <;> simp <;> omega)
  go_wp2_with ((with_reducible refine gate_builtin (b := .append) (xs := #[.tmp 46, .tmp 49]) rfl ?_); at_builtin; refine Kd.R_append_rows kH (Rr := fun h cs => cs = [encH h]) (w0 := w) w.heap.size rfl (.tmp 46) (.tmp 49) 66 69 (.slice none 0 0) 24 rfl Tryz.underlying66 Q.info69 rfl (show 0 < 1 by decide) (by decide) (.slice A8 hi.length c8) hi (hs.drop p) Ac (hs.length - p) (c - p) (fun k => w.heap.size ≤ k) (fun _ => False) rfl rfl HR5.out (by rw [HDL.out]; exact Kd.C_below HCUT.out HB5.out) (fun _ _ h => h) (fun _ hk => hk.elim) (fun k hk => Nat.le_trans (HB5.out).size hk) HB5.out (HB5.out).size (by have := HIL.out; have := HL.out; have := HN.out; omega) ?_; intro v6 w6 ho6 hb6 hg6 hat6; have HR6 := Aside0.mk ho6; have HB6 := Aside0.mk hb6; clear ho6 hb6 hg6 hat6)
  go_ret
  refine ⟨_, rfl, _, HR6.out, ?_, HB6.out⟩
  rw [HPOS.out, HHI.out, List.append_assoc]
  refine ((HRP.out).take p).append (Rel.append ?_ ((HRP.out).drop p))
  split
  · exact Rel.one HP.out
  · exact Rel.nil P
end Go.Proofs.YtbmcigakiibncaaGreatDoor.H
namespace Go.Proofs.YtbmcigakiibncaaGreatDoor.H
open Go.RowKit Go.Proofs.YtbmcigakiibncaaGreatDoorW.PrintWords Go.Proofs.YtbmcigakiibncaaGreatDoorW.PrintLast Go.Proofs.YtbmcigakiibncaaGreatDoorW.PrintMore
set_option linter.unusedVariables false
set_option linter.unusedSimpArgs false
theorem nodup_len : ∀ (n : Nat) (l : List Nat), l.Nodup → (∀ x ∈ l, x < n) → l.length ≤ n
  | 0, l, _, h => by
    cases l with
    | nil => exact Nat.le_refl _
    | cons a r => exact absurd (h a (List.mem_cons_self ..)) (Nat.not_lt_zero _)
  | n + 1, l, hn, h => by
    have h1 := nodup_len n (l.erase n) (hn.sublist (List.erase_sublist ..)) (fun x hx => by
      obtain ⟨h2, h3⟩ := (hn.mem_erase_iff).1 hx
      have := h x h3
      omega)
    rw [List.length_erase] at h1
    split at h1 <;> omega
structure GoodL (l : List (List Nd)) : Prop where
  up : l.Pairwise fun x y => cmpL x y < 0
  asc : ∀ x ∈ l, Asc x
theorem map_nodup {α : Type} (f : α → Nat) : ∀ (l : List α), l.Nodup → (∀ x ∈ l, ∀ y ∈ l, f x = f y → x = y) → (l.map f).Nodup
  | [], _, _ => List.nodup_nil
  | a :: r, hn, h => by
    obtain ⟨h1, h2⟩ := List.nodup_cons.1 hn
    rw [List.map_cons, List.nodup_cons]
    refine ⟨fun hm => ?_, map_nodup f r h2 fun x hx y hy => h x (List.mem_cons_of_mem _ hx) y (List.mem_cons_of_mem _ hy)⟩
    obtain ⟨y, hy, he⟩ := List.mem_map.1 hm
    have := h y (List.mem_cons_of_mem _ hy) a (List.mem_cons_self ..) he
    subst this
    exact h1 hy
theorem GoodL.len {l : List (List Nd)} (h : GoodL l) : l.length ≤ 16777216 := by
  have := nodup_len 16777216 (l.map maskN) (map_nodup maskN l (up_nodup h.up) fun x hx y hy e => by rw [← unN_maskN (h.asc x hx), ← unN_maskN (h.asc y hy), e]) (fun x hx => by
    obtain ⟨y, hy, rfl⟩ := List.mem_map.1 hx
    exact maskN_lt (h.asc y hy).2)
  rw [List.length_map] at this
  exact this
theorem asc_len {x : List Nd} (h : Asc x) : x.length ≤ 24 := by
  rw [← unN_maskN h]; exact (unN_small _).1
theorem asc_union {y : List Nd} {u : Nd} (hy : Asc y) (hu : InN u) : Asc (unionN y [u]) := by
  refine ⟨unionN_up y [u] hy.1 (List.pairwise_singleton ..), fun z hz => ?_⟩
  rcases (unionN_mem y [u] z).1 hz with h | h
  · exact hy.2 z h
  · rw [List.mem_singleton.1 h]; exact hu
theorem GoodL.insert {l : List (List Nd)} (h : GoodL l) {x : List Nd} (hx : Asc x) : GoodL (insertA l x) := by
  refine ⟨insertA_up l x h.up, fun z hz => ?_⟩
  rcases (insertA_mem l x z).1 hz with rfl | h1
  · exact hx
  · exact h.asc z h1
theorem GoodL.smallest {l : List (List Nd)} (h : GoodL l) : GoodL (smallest l) := ⟨h.up.sublist (smallest_sub l), fun z hz => h.asc z ((smallest_sub l).subset hz)⟩
theorem GoodL.start : GoodL [[]] := ⟨List.pairwise_singleton .., fun z hz => by rw [List.mem_singleton.1 hz]; exact ⟨List.Pairwise.nil, fun x hx => absurd hx (List.not_mem_nil)⟩⟩
theorem GoodL.none : GoodL [] := ⟨List.Pairwise.nil, fun z hz => absurd hz (List.not_mem_nil)⟩
def nextTo (out : List (List Nd)) (x : List Nd) (k : Nat) : List (List Nd) := (out.take k).foldl (fun next y => addAll y next x) []
def addTo (y : List Nd) (next : List (List Nd)) (x : List Nd) (j : Nat) : List (List Nd) := addAll y next (x.take j)
def outTo (sm : List (List Nd)) (i : Nat) : List (List Nd) := (sm.take i).foldl (fun out x => smallest (nextOf out x)) [[]]
theorem addTo_succ (y : List Nd) (next : List (List Nd)) (x : List Nd) (j : Nat) (hj : j < x.length) : addTo y next x (j + 1) = insertA (addTo y next x j) (unionN y [x.getD j zN]) := by
  unfold addTo addAll
  rw [List.take_add_one, List.foldl_append, List.getElem?_eq_getElem hj, List.getD_eq_getElem?_getD, List.getElem?_eq_getElem hj]; rfl
theorem addTo_all (y : List Nd) (next : List (List Nd)) (x : List Nd) : addTo y next x x.length = addAll y next x := by unfold addTo; rw [List.take_length]
theorem nextTo_succ (out : List (List Nd)) (x : List Nd) (k : Nat) (hk : k < out.length) : nextTo out x (k + 1) = addAll (out.getD k []) (nextTo out x k) x := by
  unfold nextTo
  rw [List.take_add_one, List.foldl_append, List.getElem?_eq_getElem hk, List.getD_eq_getElem?_getD, List.getElem?_eq_getElem hk]; rfl
theorem nextTo_all (out : List (List Nd)) (x : List Nd) : nextTo out x out.length = nextOf out x := by unfold nextTo nextOf; rw [List.take_length]
theorem outTo_succ (sm : List (List Nd)) (i : Nat) (hi : i < sm.length) : outTo sm (i + 1) = smallest (nextOf (outTo sm i) (sm.getD i [])) := by
  unfold outTo
  rw [List.take_add_one, List.foldl_append, List.getElem?_eq_getElem hi, List.getD_eq_getElem?_getD, List.getElem?_eq_getElem hi]; rfl
theorem outTo_all (l : List (List Nd)) : outTo (smallest l) (smallest l).length = dualF l := by unfold outTo dualF; rw [List.take_length]
theorem addTo_good {y : List Nd} {next : List (List Nd)} {x : List Nd} (hy : Asc y) (hn : GoodL next) (hx : ∀ u ∈ x, InN u) : ∀ j, GoodL (addTo y next x j)
  | 0 => hn
  | j + 1 => by
    by_cases hj : j < x.length
    · rw [addTo_succ y next x j hj]
      exact (addTo_good hy hn hx j).insert (asc_union hy (hx _ (by rw [List.getD_eq_getElem?_getD, List.getElem?_eq_getElem hj]; exact List.getElem_mem hj)))
    · have := addTo_good hy hn hx j
      unfold addTo at this ⊢
      rwa [List.take_of_length_le (by omega)] at this ⊢
theorem nextTo_good {out : List (List Nd)} {x : List Nd} (ho : GoodL out) (hx : ∀ u ∈ x, InN u) : ∀ k, GoodL (nextTo out x k)
  | 0 => GoodL.none
  | k + 1 => by
    by_cases hk : k < out.length
    · rw [nextTo_succ out x k hk, ← addTo_all]
      exact addTo_good (ho.asc _ (by rw [List.getD_eq_getElem?_getD, List.getElem?_eq_getElem hk]; exact List.getElem_mem hk)) (nextTo_good ho hx k) hx _
    · have := nextTo_good ho hx k
      unfold nextTo at this ⊢
      rwa [List.take_of_length_le (by omega)] at this ⊢
theorem outTo_good {sm : List (List Nd)} (hx : ∀ x ∈ sm, Asc x) : ∀ i, GoodL (outTo sm i)
  | 0 => GoodL.start
  | i + 1 => by
    by_cases hi : i < sm.length
    · rw [outTo_succ sm i hi, ← nextTo_all]
      exact (nextTo_good (outTo_good hx i) (hx _ (by rw [List.getD_eq_getElem?_getD, List.getElem?_eq_getElem hi]; exact List.getElem_mem hi)).2 _).smallest
    · have := outTo_good hx i
      unfold outTo at this ⊢
      rwa [List.take_of_length_le (by omega)] at this ⊢
theorem CP_of_RP {w : World} {b : Nat} {ok : Nat → Prop} {h : Hd} {x : List Nd} (hr : RP w b ok h x) : CP w h x := by
  obtain ⟨A, c, e, hl, hC⟩ := Kd.R_reads hr
  have e' : Value.slice h.1 h.2.1 h.2.2 = .slice A x.length c := e
  injection e' with e1 e2 e3
  exact ⟨e2, by rw [e3]; exact hl, by rw [e1]; exact hC⟩
structure NX (b : Nat) (W : World) (v : Value) (nx : List (List Nd)) : Prop where
  le : b ≤ W.heap.size
  made : ∃ hs A c, v = .slice A hs.length c ∧ hs.length ≤ c ∧ Kd.C kH W A hs.length hs ∧ Rel (RP W b (fun k => b ≤ k)) hs nx
theorem NX.move {b : Nat} {W W' : World} {v : Value} {nx : List (List Nd)} (h : NX b W v nx) (hb : Below W.heap.size W W') : NX b W' v nx := by
  obtain ⟨h0, hs, A, c, e, h1, h2, h3⟩ := h
  exact ⟨Nat.le_trans h0 hb.size, hs, A, c, e, h1, Kd.C_below h2 hb, h3.imp fun _ _ h => Kd.R_below h hb⟩
theorem NX.start {b : Nat} {W : World} (h : b ≤ W.heap.size) : NX b W (.slice none 0 0) [] := ⟨h, [], none, 0, rfl, Nat.le_refl _, ⟨rfl, Nat.zero_le _, fun h => absurd h (by simp)⟩, Rel.nil _⟩
theorem ins_calls {b : Nat} {W : World} {v6 vU : Value} {nx : List (List Nd)} {x : List Nd} (h : NX b W v6 nx) (hU : Kd.R Q.k83 83 W b (fun k => b ≤ k) vU x) (hg : GoodL nx) :
    Calls Tryz.prog 98 #[v6, vU] W fun E W' => ∃ v, E = .returned v ∧ NX b W' v (insertA nx x) ∧ Below W.heap.size W W' := by
  obtain ⟨h0, hs, A, c, rfl, h1, h2, h3⟩ := h
  obtain ⟨B, d, rfl, hl, hB⟩ := Kd.R_reads hU
  refine (insert_calls (RP W b (fun k => b ≤ k)) hs nx A c B x d W h2 h1 (h3.imp fun _ _ h => CP_of_RP h) h3 hB hl hU (by have := hg.len; omega)).mono ?_
  rintro E W' ⟨v, hs', rfl, hR, hrel, hb⟩
  obtain ⟨A', c', rfl, hl', hC'⟩ := Kd.R_reads hR
  exact ⟨_, rfl, ⟨Nat.le_trans h0 hb.size, hs', A', c', rfl, hl', hC', hrel.imp fun _ _ h => Kd.R_below h hb⟩, hb⟩
theorem small_calls {b : Nat} {W : World} {v6 : Value} {nx : List (List Nd)} (h : NX b W v6 nx) (hg : GoodL nx) :
    Calls Tryz.prog 48 #[v6] W fun E W' => ∃ v, E = .returned v ∧ kA1.R 69 W' b (fun k => b ≤ k) v (smallest nx) ∧ Below W.heap.size W W' := by
  obtain ⟨h0, hs, A, c, rfl, h1, h2, h3⟩ := h
  have h3' : Rel (CP W) hs nx := h3.imp fun _ _ h => CP_of_RP h
  have hC := heads_C h2 h3'
  rw [h3.1] at h2 h1 ⊢
  refine (smallest_calls (RP W b (fun k => b ≤ k)) nx A c W hC (by have := hg.len; omega) (fun x hx => by have := asc_len (hg.asc x hx); omega) ?_).mono ?_
  · intro i hi ad A1 n1 c1 e hk
    obtain ⟨ad2, A2, c2, e2, he, hk2, _⟩ := at_head (w := W) (A := A) (hs := hs) (xs := nx) (by rw [h3.1]; exact h2) h3' (i := i) (by rw [h3.1]; exact hi)
    rw [e] at e2
    injection e2 with e2
    subst e2
    rw [hk] at hk2
    injection hk2 with hk2
    injection hk2 with q1 q2 q3
    subst q1 q2 q3
    rw [← he]
    exact h3.2 i hi
  · rintro E W' ⟨v, hs', rfl, hR, hrel, hb⟩
    exact ⟨v, rfl, R_of_heads hR hrel hb h0 (fun k hk => Nat.le_trans h0 hk), hb⟩
theorem C_one {W : World} {g : Nat} (z : Nd) (h : W.heap[g]? = some (.cells #[.int .i64 z.f0, .int .i64 z.f1] 83 (0, 0))) : Kd.C Q.k83 W (some ⟨g, 0, none⟩) 1 [z] := by
  refine ⟨rfl, by decide, fun _ => ⟨⟨g, 0, none⟩, rfl, fun j p hj => ?_⟩⟩
  have hj0 : j = 0 := by have := (List.getElem?_eq_some_iff.1 hj).1; simpa using this
  subst hj0
  obtain rfl : z = p := by simpa using hj
  refine ⟨[.int .i64 z.f0, .int .i64 z.f1], rfl, ⟨[.int .i64 z.f0], [.int .i64 z.f1], rfl, rfl, rfl⟩, fun i u hu => ?_⟩
  have hc := blk_cell h i
  rw [show (Addr.add ⟨g, 0, none⟩ (0 * Kd.sz Q.k83 + i)) = ⟨g, i, none⟩ by simp [Addr.add]; exact fun h => h.symm]
  rw [hc]
  simpa using hu
theorem R_one {W : World} (b : Nat) (h : b ≤ W.heap.size) : kA1.R 69 (W.alloc (.cells #[.slice none 0 0] 69)) b (fun k => b ≤ k) (.slice (some ⟨W.heap.size, 0, none⟩) 1 1) [[]] := by
  have hsz : kA1.sz = 1 := rfl
  refine ⟨fun k hk => ?_, [.slice none 0 0], ⟨by simp [hsz], .inr ⟨W.heap.size, 1, _, rfl, h, blk_new W _, by simp, by unfold maxLen; omega, by simp [hsz], by simp [hsz]⟩⟩, by simp [hsz], fun j p hj => ?_⟩
  · have : W.heap.size = k := by simpa [Value.ownBlock] using hk
    omega
  · have hj0 : j = 0 := by have := (List.getElem?_eq_some_iff.1 hj).1; simpa using this
    subst hj0
    obtain rfl : [] = p := by simpa using hj
    exact ⟨.slice none 0 0, rfl, Kd.R_nil _ _ _ _ _⟩
theorem run_one69 (z : Nd) (W : World) : (Instr.buildSlice 69 1 #[(0, .agg #[.int .i64 z.f0, .int .i64 z.f1])]).run Tryz.prog W = .ok (.slice (some ⟨W.heap.size, 0, none⟩) 1 1) (W.alloc (.cells #[.int .i64 z.f0, .int .i64 z.f1] 83)) := by
  obtain ⟨i, hi, hz⟩ := Option.map_eq_some_iff.1 Q.info83
  simp only [Prod.mk.injEq] at hz
  refine Go.run_buildSlice W 69 83 1 _ _ i _ Tryz.underlying69 hi hz.1 (by rw [hz.2.1]; decide) (by rw [hz.2.1]; decide) ?_
  rw [hz.2.1]
  kernel_rfl
theorem run_one66 (W : World) : (Instr.buildSlice 66 1 #[(0, .slice none 0 0)]).run Tryz.prog W = .ok (.slice (some ⟨W.heap.size, 0, none⟩) 1 1) (W.alloc (.cells #[.slice none 0 0] 69)) := by
  obtain ⟨i, hi, hz⟩ := Option.map_eq_some_iff.1 Q.info69
  simp only [Prod.mk.injEq] at hz
  refine Go.run_buildSlice W 66 69 1 _ _ i _ Tryz.underlying66 hi hz.1 (by rw [hz.2.1]; decide) (by rw [hz.2.1]; decide) ?_
  rw [hz.2.1]
  kernel_rfl
end Go.Proofs.YtbmcigakiibncaaGreatDoor.H
namespace Go.Proofs.YtbmcigakiibncaaGreatDoor.H
open Go.RowKit Go.Proofs.YtbmcigakiibncaaGreatDoorW.PrintWords Go.Proofs.YtbmcigakiibncaaGreatDoorW.PrintLast Go.Proofs.YtbmcigakiibncaaGreatDoorW.PrintMore
set_option linter.unusedVariables false
set_option linter.unusedSimpArgs false
theorem C_heads_in {w : World} {A : Option Addr} {xs : List (List Nd)} (hC : Kd.C kA1 w A xs.length xs) : ∀ i, i < xs.length → ∀ (ad : Addr) (A1 : Option Addr) (n1 c1 : Nat), A = some ad → w.cell? (ad.add i) = some (.slice A1 n1 c1) → CP w (A1, n1, c1) (xs.getD i []) := by
  intro i hi ad A1 n1 c1 e hk
  obtain ⟨ad2, A2, c2, e2, hk2, h1, h2⟩ := at_sl hC i hi
  rw [e] at e2
  injection e2 with e2
  subst e2
  rw [hk] at hk2
  injection hk2 with hk2
  injection hk2 with q1 q2 q3
  subst q1 q2 q3
  exact ⟨rfl, h1, h2⟩
theorem unionOne_calls (y : List Nd) (z : Nd) (A : Option Addr) (c g : Nat) (w : World) (hA : Kd.C Q.k83 w A y.length y) (hc : y.length ≤ c) (hg : w.heap[g]? = some (.cells #[.int .i64 z.f0, .int .i64 z.f1] 83 (0, 0))) (ha : y.length ≤ 24) :
    Calls Tryz.prog 99 #[.slice A y.length c, .slice (some ⟨g, 0, none⟩) 1 1] w fun E w' => ∃ v, E = .returned v ∧ Kd.R Q.k83 83 w' w.heap.size (fun k => w.heap.size ≤ k) v (unionN y [z]) ∧ Below w.heap.size w w' :=
  unionR_calls y [z] A c (some ⟨g, 0, none⟩) 1 w hA hc (C_one z hg) (Nat.le_refl _) (by omega) (by rw [List.length_singleton]; omega)
set_option maxHeartbeats 8000000 in
set_option maxRecDepth 100000 in
theorem dualC_calls (al : List (List Nd)) (A : Option Addr) (c : Nat) (w : World) (hC : Kd.C kA1 w A al.length al) (hg : GoodL al) :
    Calls Tryz.prog 51 #[.slice A al.length c] w fun E w' => ∃ v, E = .returned v ∧ kA1.R 69 w' w.heap.size (fun k => w.heap.size ≤ k) v (dualF al) ∧ Below w.heap.size w w' := by
  have HC := Aside0.mk hC
  have HG := Aside0.mk hg
  have HRO := Aside0.mk (R_one (W := w) w.heap.size (Nat.le_refl _))
  have HBO := Aside0.mk (below_alloc (Below.refl w.heap.size w) (.cells #[.slice none 0 0] 69))
  have hu83 := Tryz.underlying83
  have hb66 := run_one66
  clear hC hg
  go_enter Tryz.func51, Tryz.ntmps51
  go_upto_region 2 with (fail)
  clear hb66
  generalize hW0 : w.alloc (.cells #[.slice none 0 0] 69) = W0 at *
  generalize hv0 : Value.slice (some ⟨w.heap.size, 0, none⟩) 1 1 = v0 at *
  clear hW0 hv0
  have HSM := Aside0.mk (smallest_calls (CP W0) al A c W0 (Kd.C_below HC.out HBO.out) (by have := (HG.out).len; omega) (fun x hx => by have := asc_len ((HG.out).asc x hx); omega) (C_heads_in (Kd.C_below HC.out HBO.out)))
  go_wp2_with fail
  refine (HSM.out).mono ?_
  rintro E W1 ⟨v, hs, rfl, hR, hrel, hb⟩
  obtain ⟨A2, c2, rfl, hl2, hC2⟩ := C_of_heads hR hrel hb
  have HSC := Aside0.mk hC2
  have HRO1 := Aside0.mk (Kd.R_below HRO.out hb)
  have HB1 := Aside0.mk (below_then HBO.out (HBO.out).size hb)
  have HSX := Aside0.mk (show ∀ x ∈ smallest al, Asc x from fun x hx => (HG.out).smallest.asc x hx)
  have HSL := Aside0.mk ((HG.out).smallest.len)
  have HDF := Aside0.mk (outTo_all al)
  clear hR hrel hb hl2 hC2 HSM HRO HBO HC HG
  generalize smallest al = sm at *
  have HOG := Aside0.mk (fun i => outTo_good HSX.out i)
  have HOS := Aside0.mk (fun i (hi : i < sm.length) => outTo_succ sm i hi)
  go_wp2_with fail
  go_loopg [15, 3] sm.length (fun gg v15 v3 wi => ∃ i : Nat, i ≤ sm.length ∧ sm.length - i ≤ gg ∧ v15 = .int .i64 i ∧ Aside0 (kA1.R 69 wi w.heap.size (fun k => w.heap.size ≤ k) v3 (outTo sm i)) ∧ Aside0 (Below w.heap.size w wi) ∧ Aside0 (Below W1.heap.size W1 wi))
  case atStart => exact ⟨0, Nat.zero_le _, Nat.le_refl _, rfl, HRO1, HB1, ⟨Below.refl _ _⟩⟩
  case round =>
    clear HRO1 HB1
    obtain ⟨i, hi, hgg, rfl, HO, HB, HBW⟩ := hrel
    by_cases hlt : i < sm.length
    · have hltz : (i : Int) < (sm.length : Int) := by omega
      have HLT := Aside0.mk hlt
      obtain ⟨ad, A5, c5, e, hk, hl5, hC5⟩ := at_sl HSC.out i hlt
      subst e
      replace hk := pw_cell_below HBW.out hk
      have HXC := Aside0.mk (Kd.C_below hC5 HBW.out)
      have HXA := Aside0.mk ((HSX.out) _ (getD_memX [] hlt))
      have HXL := Aside0.mk (asc_len HXA.out)
      have HL5 := Aside0.mk hl5
      have HNX := Aside0.mk ((HOS.out) i hlt)
      have HKI := Aside0.mk (show wrap64 ((i : Int) + 1) = ((i + 1 : Nat) : Int) by rw [wr_id (by omega) (by have := HSL.out; omega)]; rfl)
      obtain ⟨A3, c3, rfl, hl3, hC3⟩ := Kd.R_reads HO.out
      have HOC := Aside0.mk hC3
      have HOA := Aside0.mk ((HOG.out) i)
      have HOL := Aside0.mk (HOA.out).len
      generalize sm.getD i [] = x at *
      generalize outTo sm i = out at *
      have HN0 := Aside0.mk (NX.start (HB.out).size)
      have HNA := Aside0.mk (nextTo_all out x)
      have HNG := Aside0.mk (fun k => nextTo_good HOA.out (HXA.out).2 k)
      have HNS := Aside0.mk (fun k (hk : k < out.length) => nextTo_succ out x k hk)
      clear hC5 hl5 hl3 hC3 hlt hi
      go_wp2_with fail
      clear hk
      generalize wr = WR at *
      go_loopg [21, 6] out.length (fun gg v21 v6 wi => ∃ k : Nat, k ≤ out.length ∧ out.length - k ≤ gg ∧ v21 = .int .i64 k ∧ Aside0 (NX w.heap.size wi v6 (nextTo out x k)) ∧ Aside0 (Below WR.heap.size WR wi))
      case atStart => exact ⟨0, Nat.zero_le _, Nat.le_refl _, rfl, HN0, ⟨Below.refl _ _⟩⟩
      case round =>
        clear HN0
        obtain ⟨k, hk, hgg2, rfl, HN, HBR⟩ := hrel
        by_cases hltk : k < out.length
        · have hltkz : (k : Int) < (out.length : Int) := by omega
          have HLK := Aside0.mk hltk
          obtain ⟨ad2, A8, c8, e, hk8, hl8, hC8⟩ := at_sl HOC.out k hltk
          subst e
          replace hk8 := pw_cell_below HBR.out hk8
          have HYC := Aside0.mk (Kd.C_below hC8 HBR.out)
          have HYA := Aside0.mk ((HOA.out).asc _ (getD_memX [] hltk))
          have HYL := Aside0.mk (asc_len HYA.out)
          have HL8 := Aside0.mk hl8
          have HXC2 := Aside0.mk (Kd.C_below HXC.out HBR.out)
          have HNK := Aside0.mk ((HNS.out) k hltk)
          have HKK := Aside0.mk (show wrap64 ((k : Int) + 1) = ((k + 1 : Nat) : Int) by rw [wr_id (by omega) (by have := HOL.out; omega)]; rfl)
          have HNGK := Aside0.mk ((HNG.out) k)
          generalize out.getD k [] = y at *
          generalize nextTo out x k = nx at *
          have HAG := Aside0.mk (fun j => addTo_good HYA.out HNGK.out (HXA.out).2 j)
          have HAS := Aside0.mk (fun j (hj : j < x.length) => addTo_succ y nx x j hj)
          have HAA := Aside0.mk (addTo_all y nx x)
          clear hC8 hl8 hltk hk
          go_wp2_with fail
          clear hk8
          generalize wr = WS at *
          go_loopg [27, 6] x.length (fun gg v27 v6 wi => ∃ j : Nat, j ≤ x.length ∧ x.length - j ≤ gg ∧ v27 = .int .i64 j ∧ Aside0 (NX w.heap.size wi v6 (addTo y nx x j)) ∧ Aside0 (Below WS.heap.size WS wi))
          case atStart => exact ⟨0, Nat.zero_le _, Nat.le_refl _, rfl, HN, ⟨Below.refl _ _⟩⟩
          case round =>
            clear HN
            obtain ⟨j, hj, hgg3, rfl, HN, HBS⟩ := hrel
            by_cases hltj : j < x.length
            · have hltjz : (j : Int) < (x.length : Int) := by omega
              have HLJ := Aside0.mk hltj
              obtain ⟨ad3, e, hx0, hx1⟩ := Q.at_T83 HXC2.out (j : Int) (by omega) (by omega)
              subst e
              replace hx0 := pw_cell_below HBS.out hx0
              replace hx1 := pw_cell_below HBS.out hx1
              have HAJ := Aside0.mk ((HAS.out) j hltj)
              have HKJ := Aside0.mk (show wrap64 ((j : Int) + 1) = ((j + 1 : Nat) : Int) by rw [wr_id (by omega) (by have := HXL.out; omega)]; rfl)
              have HAGJ := Aside0.mk ((HAG.out) j)
              have hzr : Q.rd_T83 x (j : Int) = x.getD j zN := by unfold Q.rd_T83; rw [Int.toNat_natCast]; rfl
              rw [hzr, Int.toNat_natCast] at hx0 hx1
              clear hzr
              generalize x.getD j zN = z at *
              generalize addTo y nx x j = nj at *
              have HBK := Aside0.mk (blk_new wr (.cells #[.int .i64 z.f0, .int .i64 z.f1] 83))
              clear hltj hj
              go_upto_region 12 with (fail)
              have HBB := Aside0.mk (below_alloc (Below.refl wr.heap.size wr) (.cells #[.int .i64 z.f0, .int .i64 z.f1] 83))
              clear hx0 hx1
              generalize hW8 : wr.alloc (.cells #[.int .i64 z.f0, .int .i64 z.f1] 83) = W8 at *
              clear hW8
              have hc0 := (blk_cell HBK.out 0).trans (show _ = some (Value.int .i64 z.f0) from rfl)
              have hc1 := (blk_cell HBK.out 1).trans (show _ = some (Value.int .i64 z.f1) from rfl)
              have hb69 := run_one69 z
              have HBA := Aside0.mk (below_alloc (Below.refl W8.heap.size W8) (.cells #[.int .i64 z.f0, .int .i64 z.f1] 83))
              have HN8 := Aside0.mk (((HN.out).move HBB.out).move HBA.out)
              have HWA := Aside0.mk (below_then (below_then HBS.out (HBS.out).size HBB.out) (Nat.le_trans (HBS.out).size (HBB.out).size) HBA.out)
              have HU := Aside0.mk (unionOne_calls y z A8 c8 W8.heap.size (W8.alloc (.cells #[.int .i64 z.f0, .int .i64 z.f1] 83)) (Kd.C_below HYC.out HWA.out) HL8.out (blk_new W8 _) HYL.out)
              clear HN HBA
              go_wp2_with fail
              refine (HU.out).mono ?_
              rintro E W9 ⟨vU, rfl, hR, hb⟩
              have HN9 := Aside0.mk ((HN8.out).move hb)
              have HR9 := Aside0.mk (show Kd.R Q.k83 83 W9 w.heap.size (fun k => w.heap.size ≤ k) vU (unionN y [z]) from Kd.R_mono (Kd.R_lower hR (HN8.out).le) (fun k hk => Nat.le_trans (HN8.out).le hk))
              have HW9 := Aside0.mk (below_then HWA.out (HWA.out).size hb)
              have HI := Aside0.mk (ins_calls HN9.out HR9.out HAGJ.out)
              clear hR hb HN8 HWA HU hc0 hc1 hb69 HBK HBB
              go_wp2_with fail
              refine (HI.out).mono ?_
              rintro E W10 ⟨v10, rfl, hN, hb⟩
              have HN10 := Aside0.mk hN
              have HW10 := Aside0.mk (below_then HW9.out (HW9.out).size hb)
              clear hN hb HN9 HR9 HW9 HI
              go_wp2
              go_roundg (x.length - (j + 1))
              case measure => have := HLJ.out; omega
              case rel => exact ⟨j + 1, HLJ.out, Nat.le_refl _, by rw [HKJ.out], ⟨by rw [HAJ.out]; exact HN10.out⟩, HW10⟩
            · obtain rfl : j = x.length := by omega
              have HN2 := Aside0.mk (show NX w.heap.size wr u6 (nextTo out x (k + 1)) by rw [HNK.out, ← HAA.out]; exact HN.out)
              have HBR2 := Aside0.mk (below_then HBR.out (HBR.out).size HBS.out)
              clear hj hgg3 hltj HN HBR
              go_wp2
              go_roundg (out.length - (k + 1))
              case measure => have := HLK.out; omega
              case rel => exact ⟨k + 1, HLK.out, Nat.le_refl _, by rw [HKK.out], HN2, HBR2⟩
        · obtain rfl : k = out.length := by omega
          have HNO := Aside0.mk (show GoodL (nextTo out x out.length) from (HNG.out) _)
          have HST := Aside0.mk (small_calls HN.out HNO.out)
          have HB2 := Aside0.mk (below_then HB.out (HB.out).size HBR.out)
          have HBW2 := Aside0.mk (below_then HBW.out (HBW.out).size HBR.out)
          rw [← HNA.out] at HNX
          generalize nextTo out x out.length = nx at *
          clear hk hgg2 hltk HN HBR HB HBW
          go_wp2_with fail
          refine (HST.out).mono ?_
          rintro E W10 ⟨v10, rfl, hR, hb⟩
          have HO2 := Aside0.mk hR
          have HB3 := Aside0.mk (below_then HB2.out (HB2.out).size hb)
          have HBW3 := Aside0.mk (below_then HBW2.out (HBW2.out).size hb)
          clear hR hb HST HB2 HBW2
          go_wp2
          go_roundg (sm.length - (i + 1))
          case measure => have := HLT.out; omega
          case rel => exact ⟨i + 1, HLT.out, Nat.le_refl _, by rw [HKI.out], ⟨by rw [HNX.out]; exact HO2.out⟩, HB3, HBW3⟩
    · obtain rfl : i = sm.length := by omega
      rw [HDF.out] at HO
      clear hi hgg hlt
      go_wp2
      go_ret
      exact ⟨_, rfl, HO.out, HB.out⟩
end Go.Proofs.YtbmcigakiibncaaGreatDoor.H
namespace Go.Proofs.YtbmcigakiibncaaGreatDoor.H
open Go.RowKit Go.Proofs.YtbmcigakiibncaaGreatDoorW.PrintWords Go.Proofs.YtbmcigakiibncaaGreatDoorW.PrintLast Go.Proofs.YtbmcigakiibncaaGreatDoorW.PrintMore
open Go.Proofs.YtbmcigakiibncaaGreatDoor.Q (S28 k28 z28 rd_T28 at_T28)
set_option linter.unusedVariables false
set_option linter.unusedSimpArgs false
theorem dual_as {rk : List Int} {st : Int} {M : Mv} {e : Int} {rk' : List Int} {st' : Int} {D : Mv} (h : dualR rk st M = (e, rk', st', D)) (A1 : Option Addr) (c1 : Nat) (A2 : Option Addr) (c2 : Nat) (w : World)
    (hr : Kd.C (Kd.int .i64) w A1 rk.length rk) (hc1 : rk.length ≤ c1) (hM : Kd.C kA3 w A2 M.length M) (ht : TabD w) :
    Calls Tryz.prog 21 #[.agg #[.slice A1 rk.length c1, .int .i64 st, .slice A2 M.length c2]] w fun E w' => ∃ B1 d1 B2 d2, E = .returned (.tuple #[.agg #[.slice B1 rk'.length d1, .int .i64 st', .slice B2 D.length d2], .int .i64 e]) ∧ Kd.C (Kd.int .i64) w' B1 rk'.length rk' ∧ rk'.length ≤ d1 ∧ Kd.C kA3 w' B2 D.length D ∧ D.length ≤ d2 ∧ Below w.heap.size w w' := by
  refine (adual_calls rk M st A1 c1 A2 c2 w hr hc1 hM ht).mono ?_
  rintro E w' q
  unfold DualRE at q
  rw [h] at q
  obtain ⟨v1, v2, rfl, h1, h2, h3⟩ := q
  obtain ⟨A3, c3, rfl⟩ := Kd.R_slice h1
  obtain ⟨A4, c4, rfl⟩ := Kd.R_slice h2
  have r1 := Kd.R_reads' h1
  have r2 := Kd.R_reads' h2
  exact ⟨A3, c3, A4, c4, rfl, r1.2.2, r1.2.1, r2.2.2, r2.2.1, h3⟩
end Go.Proofs.YtbmcigakiibncaaGreatDoor.H
namespace Go.Proofs.YtbmcigakiibncaaGreatDoor.H
open Go.RowKit Go.Proofs.YtbmcigakiibncaaGreatDoorW.PrintWords Go.Proofs.YtbmcigakiibncaaGreatDoorW.PrintLast Go.Proofs.YtbmcigakiibncaaGreatDoorW.PrintMore
set_option linter.unusedVariables false
set_option linter.unusedSimpArgs false
theorem drop_get {α : Type} (l : List α) (z : α) {j : Nat} (h : j < l.length) : l.drop j = l.getD j z :: l.drop (j + 1) := by
  rw [List.drop_eq_getElem_cons h]; simp [List.getD_eq_getElem?_getD, h]
theorem adj_pair {α : Type} (d : α) (R : α → α → Prop) (ht : ∀ a b c, R a b → R b c → R a c) : ∀ (l : List α), (∀ i, i + 1 < l.length → R (l.getD i d) (l.getD (i + 1) d)) → l.Pairwise R
  | [], _ => List.Pairwise.nil
  | [a], _ => List.pairwise_singleton ..
  | a :: b :: r, h => by
    have ih := adj_pair d R ht (b :: r) (fun i hi => by
      have := h (i + 1) (by simpa using hi)
      simpa using this)
    refine List.pairwise_cons.2 ⟨fun x hx => ?_, ih⟩
    have hab : R a b := by simpa using h 0 (by simp)
    rcases List.mem_cons.1 hx with rfl | hx
    · exact hab
    · exact ht a b x hab ((List.pairwise_cons.1 ih).1 x hx)
theorem upN_pair {l : List Nd} (h : upN l = true) : l.Pairwise fun x y => befI x y < 0 := by
  refine adj_pair zN (fun x y => befI x y < 0) (fun a b c h k => befI_trans h k) l fun i hi => ?_
  unfold upN at h
  exact of_decide_eq_true (List.all_eq_true.1 h i (List.mem_range.2 (by omega)))
theorem upL_pair {l : List (List Nd)} (h : upL l = true) : l.Pairwise fun x y => cmpL x y < 0 := by
  refine adj_pair [] (fun x y => cmpL x y < 0) (fun a b c h k => cmpL_trans h k) l fun i hi => ?_
  unfold upL at h
  exact of_decide_eq_true (List.all_eq_true.1 h i (List.mem_range.2 (by omega)))
theorem good_alts {r n : Int} {al : List (List Nd)} (h : altsOk r n al = true) (hn : ∀ l ∈ al, ∀ x ∈ l, InN x) : GoodL al := by
  unfold altsOk at h
  simp only [Bool.and_eq_true, decide_eq_true_eq, List.all_eq_true] at h
  refine ⟨upL_pair h.2, fun l hl => ⟨?_, hn l hl⟩⟩
  have h9 := h.1.2 l hl
  unfold listOk at h9
  simp only [Bool.and_eq_true] at h9
  exact upN_pair h9.2
theorem au_good {rk : List Int} {st : Int} {M : Mv} (h : auB rk st M = true) : ∀ row ∈ M, ∀ a ∈ row, GoodL a := by
  intro row hr a ha
  have hok := auOk h
  unfold auB at h
  simp only [Bool.and_eq_true] at h
  have h7 := List.all_eq_true.1 h.2 row hr
  unfold mrowOk at h7
  simp only [Bool.and_eq_true, decide_eq_true_eq, List.all_eq_true, List.mem_range] at h7
  obtain ⟨f, hf, e⟩ := mem_getD (d := []) ha
  have h8 := h7.2 f (by omega)
  rw [e] at h8
  exact good_alts h8 fun l hl x hx => hok.nds row hr a ha l hl x hx
theorem sortL_length (l : List (List Nd)) : (sortL l).length = l.length := by
  exact (sortL_perm l).length_eq
theorem dualF_ok {al : List (List Nd)} (h : GoodL al) : dualOk al = decide ((dualF al).length ≤ 12) := by
  rw [dualF_eq h.up h.asc, sortL_length, List.length_map]; rfl
theorem dualF_D {al : List (List Nd)} (h : GoodL al) (ho : dualOk al = true) : dualF al = dualD al := by
  have h1 : (hitsOf al).length ≤ 12 := of_decide_eq_true ho
  rw [dualF_eq h.up h.asc]
  unfold dualD
  rw [List.take_of_length_le (by omega)]
def tabT22 : Bool × List (List Nat × List Nat) := (true, [([], []), ([0], [0]), ([], []), ([1, 2], [1, 2]), ([3], [3]), ([], []), ([], []), ([6], [6]), ([4, 5, 0, 1, 2, 3, 4, 5, 6, 7], [4, 5]), ([8, 7, 7, 0, 1, 2, 3, 4, 5, 6, 7], [7, 8])])
theorem tab22 : rtab .any (opsOf Tryz.f22 10) = tabT22 := by kernel_rfl
theorem bits22 : waitsOk tabT22.2 [0, 1, 0, 7, 15, 0, 0, 64, 255, 511] = true := by kernel_rfl
end Go.Proofs.YtbmcigakiibncaaGreatDoor.H
namespace Go.Proofs.YtbmcigakiibncaaGreatDoor.H
open Go.RowKit Go.Proofs.YtbmcigakiibncaaGreatDoorW.PrintWords Go.Proofs.YtbmcigakiibncaaGreatDoorW.PrintLast Go.Proofs.YtbmcigakiibncaaGreatDoorW.PrintMore
set_option linter.unusedVariables false
set_option linter.unusedSimpArgs false
structure Rows (b lo : Nat) (W : World) (v : Value) (hs : List Hd) (xs : Mv) : Prop where
  len : hs.length = xs.length
  row : kH.R 65 W b (fun k => lo ≤ k) v hs
  rows : ∀ q, q < xs.length → kA2.R 66 W b (fun k => lo ≤ k) (encH (hs.getD q zH)) (xs.getD q [])
  sep : ∀ q q', q < xs.length → q' < xs.length → q ≠ q' → ∀ k, (encH (hs.getD q zH)).ownBlock = some k → (encH (hs.getD q' zH)).ownBlock ≠ some k
theorem Rows.start (b lo : Nat) (W : World) : Rows b lo W (.slice none 0 0) [] [] := ⟨rfl, Kd.R_nil _ _ _ _ _, fun q h => absurd h (Nat.not_lt_zero _), fun q q' h => absurd h (Nat.not_lt_zero _)⟩
theorem Rows.move {b lo : Nat} {W W1 : World} {v : Value} {hs : List Hd} {xs : Mv} (h : Rows b lo W v hs xs) (hm : ∀ k, lo ≤ k → k < W.heap.size → W1.heap[k]? = W.heap[k]?) : Rows b lo W1 v hs xs :=
  ⟨h.len, R_same h.row hm, fun q hq => R_same (h.rows q hq) hm, h.sep⟩
theorem Rows.below {b lo : Nat} {W W1 : World} {v : Value} {hs : List Hd} {xs : Mv} (h : Rows b lo W v hs xs) (hb : Below W.heap.size W W1) : Rows b lo W1 v hs xs := h.move fun k _ hk => hb.block k hk
theorem Rows.push {b lo : Nat} {W0 W W1 : World} {v v1 : Value} {hs : List Hd} {xs : Mv} {row : List (List (List Nd))} {h0 : Hd} (h : Rows b lo W0 v hs xs) (hb : Below W0.heap.size W0 W) (hlo : lo ≤ W0.heap.size)
    (hr : kA2.R 66 W b (fun k => W0.heap.size ≤ k) (encH h0) row) (hv : kH.R 65 W1 b (fun k => lo ≤ k) v1 (hs ++ [h0])) (hg : W.grownBy W1 v.ownBlock) : Rows b lo W1 v1 (hs ++ [h0]) (xs ++ [row]) := by
  have hW := h.below hb
  have hty : ∀ (hd : Hd) (x : List (List (List Nd))) (ok : Nat → Prop), kA2.R 66 W b ok (encH hd) x → kA2.R 66 W1 b ok (encH hd) x := fun hd x ok hR => by
    refine R_grown9 hR hW.row ?_ ?_ hg
    · decide
    · intro q hq
      simp [kA2, kA1, Kd.slice, Q.k83, Kd.iso, Kd.pair, Kd.int, Kd.scalar] at hq
      omega
  refine ⟨by rw [List.length_append, List.length_append, h.len]; rfl, hv, fun q hq => ?_, fun q q' hq hq' hne k hk => ?_⟩
  · rw [List.length_append, List.length_singleton] at hq
    rw [getD_snoc, getD_snoc, h.len]
    split
    · exact Kd.R_mono (hty _ _ _ hr) (fun k hk => Nat.le_trans hlo hk)
    · exact hty _ _ _ (hW.rows q (by omega))
  · rw [List.length_append, List.length_singleton] at hq hq'
    rw [getD_snoc, h.len] at hk ⊢
    split at hk
    · rw [if_neg (by omega)]
      intro hk'
      have h1 : W0.heap.size ≤ k := hr.1 k hk
      have h2 := (ownBlock_typed (h.rows q' (by omega)) hk').2
      omega
    · split
      · intro hk'
        have h1 : W0.heap.size ≤ k := hr.1 k hk'
        have h2 := (ownBlock_typed (h.rows q (by omega)) hk).2
        omega
      · exact h.sep q q' (by omega) (by omega) hne k hk
structure CW (w : World) (a0 a1 a2 v1 v2 : Value) (st : Int) (rk : List Int) (hs : List Hd) (xs : Mv) (W : World) : Prop where
  dw : DW w W a0 a1 a2 (.slice none 0 0) (.int .i64 0) (.slice none 0 0)
  bx : W.heap[w.heap.size + 1 + 1]? = some (.cells #[v1, .int .i64 st, v2] 25 (0, 0))
  rr : Kd.R (Kd.int .i64) 3 W w.heap.size (fun k => w.heap.size + 3 ≤ k) v1 rk
  rows : Rows w.heap.size (w.heap.size + 3) W v2 hs xs
theorem CW.below {w : World} {a0 a1 a2 v1 v2 : Value} {st : Int} {rk : List Int} {hs : List Hd} {xs : Mv} {W W1 : World} (h : CW w a0 a1 a2 v1 v2 st rk hs xs W) (hb : Below W.heap.size W W1) : CW w a0 a1 a2 v1 v2 st rk hs xs W1 :=
  ⟨h.dw.below hb, blk_below h.bx hb, Kd.R_below h.rr hb, h.rows.below hb⟩
theorem CW.push {w : World} {a0 a1 a2 v1 v2 v3 : Value} {st : Int} {rk : List Int} {hs : List Hd} {xs : Mv} {W0 W W1 : World} {row : List (List (List Nd))} {h0 : Hd} (h : CW w a0 a1 a2 v1 v2 st rk hs xs W0) (hb : Below W0.heap.size W0 W)
    (hr : kA2.R 66 W w.heap.size (fun k => W0.heap.size ≤ k) (encH h0) row) (hv : kH.R 65 W1 w.heap.size (fun k => w.heap.size + 3 ≤ k) v3 (hs ++ [h0])) (hb1 : Below w.heap.size w W1) (hg : W.grownBy W1 v2.ownBlock) : CW w a0 a1 a2 v1 v3 st rk (hs ++ [h0]) (xs ++ [row]) (W1.setCell ⟨w.heap.size + 1 + 1, 2, none⟩ v3) := by
  have hW := h.below hb
  have hown : ∀ k, v2.ownBlock = some k → w.heap.size + 3 ≤ k := hW.rows.row.1
  have hlo := blk_lt h.bx
  refine ⟨(hW.dw.grown hb1 hg (fun k hk => by have := hown k hk; omega)).far (Nat.le_refl _) v3, blk_put (blk_grown hW.bx hg (fun e => by have := hown _ e.symm; omega)) 2 v3 rfl, ?_, ?_⟩
  · exact Kd.R_far (R_grown9 hW.rr hW.rows.row (by decide) (fun _ h => by cases h) hg) (p := ⟨w.heap.size + 1 + 1, 2, none⟩) (fun k hk he => by have h0 : w.heap.size + 3 ≤ k := hk; have h1 : k = w.heap.size + 1 + 1 := he; omega) v3
  · exact (h.rows.push hb (by omega) hr hv hg).move fun k hk _ => Below.heap_setCell _ _ _ k (by show k ≠ w.heap.size + 1 + 1; omega)
set_option maxHeartbeats 8000000 in
set_option maxRecDepth 100000 in
theorem copy2_calls {rk : List Int} {st : Int} {M : Mv} (ha : AuOk rk st M) (A1 : Option Addr) (c1 : Nat) (A2 : Option Addr) (c2 : Nat) (w : World) (hr : Kd.C (Kd.int .i64) w A1 rk.length rk) (hc1 : rk.length ≤ c1) (hM : Kd.C kA3 w A2 M.length M) (hc2 : M.length ≤ c2) :
    Calls Tryz.prog 36 #[.agg #[.slice A1 rk.length c1, .int .i64 st, .slice A2 M.length c2]] w fun E w' => ∃ v1 v2 hs, E = .returned (.agg #[v1, .int .i64 st, v2]) ∧ Kd.R (Kd.int .i64) 3 w' w.heap.size (fun k => w.heap.size ≤ k) v1 rk ∧ Rows w.heap.size w.heap.size w' v2 hs M ∧ Below w.heap.size w w' := by
  have HOK := Aside0.mk ha
  have HR := Aside0.mk hr
  have HM := Aside0.mk hM
  have hu25 := Tryz.underlying25
  clear ha hr hM
  go_enter Tryz.func36, Tryz.ntmps36
  go_upto_region 2 with (fail)
  have HD0 := Aside0.mk (DW.start w (.slice A1 rk.length c1) (.int .i64 st) (.slice A2 M.length c2))
  have HBX0 := Aside0.mk (blk_new ((w.alloc (.cells #[.slice A1 rk.length c1, .int .i64 st, .slice A2 M.length c2] 25)).alloc (.cells #[.slice none 0 0, .int .i64 0, .slice none 0 0] 25)) (.cells #[.slice none 0 0, .int .i64 st, .slice none 0 0] 25))
  have HD3 := Aside0.mk ((HD0.out).below (below_alloc (Below.refl _ _) (.cells #[.slice none 0 0, .int .i64 st, .slice none 0 0] 25)))
  clear HD0
  rw [show ((w.alloc (.cells #[.slice A1 rk.length c1, .int .i64 st, .slice A2 M.length c2] 25)).alloc (.cells #[.slice none 0 0, .int .i64 0, .slice none 0 0] 25)).heap.size = w.heap.size + 1 + 1 by simp only [World.alloc, Array.size_push]] at HBX0
  generalize (((w.alloc (.cells #[.slice A1 rk.length c1, .int .i64 st, .slice A2 M.length c2] 25)).alloc (.cells #[.slice none 0 0, .int .i64 0, .slice none 0 0] 25)).alloc (.cells #[.slice none 0 0, .int .i64 st, .slice none 0 0] 25)) = W3 at *
  obtain ⟨k0, k1, k2⟩ := (HD3.out).cells
  have x0 := (blk_cell HBX0.out 0).trans (show _ = some (Value.slice none 0 0) from rfl)
  have HRN := Aside0.mk ((HOK.out).nrk)
  have HMN := Aside0.mk ((HOK.out).nM)
  have HSZ := Aside0.mk (blk_lt HBX0.out)
  have fx0 := blk_frozen HBX0.out 0
  go_wp2_with ((with_reducible refine gate_builtin (b := .append) (xs := #[.tmp 16, .tmp 18]) rfl ?_); at_builtin; refine Kd.R_append_rows (Kd.int .i64) (Rr := fun x cs => cs = [.int .i64 x]) (w0 := w) w.heap.size rfl (.tmp 16) (.tmp 18) 22 3 (.int .i64 0) 8 rfl Tryz.underlying22 Q.info3 rfl (show 0 < 1 by decide) (by decide) (.slice none 0 0) [] rk A1 rk.length c1 (fun k => w.heap.size + 3 ≤ k) (fun _ => False) rfl rfl (Kd.R_nil _ _ _ _ _) (Kd.C_below HR.out (HD3.out).hb) (fun _ _ h => h) (fun _ hk => hk.elim) (fun k hk => by have := HSZ.out; show w.heap.size + 3 ≤ k; omega) (HD3.out).hb (HD3.out).hb.size (by have := HRN.out; rw [List.length_nil]; omega) ?_; intro v5 w5 ho5 hb5 hg5 hat5; have HR5 := Aside0.mk (show Kd.R (Kd.int .i64) 3 w5 w.heap.size (fun k => w.heap.size + 3 ≤ k) v5 rk from ho5); have HD5 := Aside0.mk ((HD3.out).grown hb5 hg5 (fun k hk => by cases hk)); have HBX5 := Aside0.mk (blk_grown HBX0.out hg5 (fun e => by cases e)); clear ho5 hb5 hg5 hat5; (obtain ⟨A5, c5, e5⟩ := Kd.R_slice HR5.out); subst e5; have fx0 := blk_frozen HBX5.out 0; have x0 := (blk_cell HBX5.out 0).trans (show _ = some (Value.slice none 0 0) from rfl); obtain ⟨_, _, k2⟩ := (HD5.out).cells)
  have HCW := Aside0.mk (show CW w (.slice A1 rk.length c1) (.int .i64 st) (.slice A2 M.length c2) (.slice A5 rk.length c5) (.slice none 0 0) st rk [] [] (w5.setCell ⟨w.heap.size + 1 + 1, 0, none⟩ (.slice A5 rk.length c5)) from
    ⟨(HD5.out).far (Nat.le_refl _) _, blk_put HBX5.out 0 _ rfl, Kd.R_far HR5.out (p := ⟨w.heap.size + 1 + 1, 0, none⟩) (fun k hk he => by have h0 : w.heap.size + 3 ≤ k := hk; have h1 : k = w.heap.size + 1 + 1 := he; omega) _, Rows.start _ _ _⟩)
  go_loopg [24] M.length (fun gg v24 wi => ∃ (q : Nat) (v2 : Value) (hs : List Hd), q ≤ M.length ∧ M.length - q ≤ gg ∧ v24 = .int .i64 q ∧ Aside0 (CW w (.slice A1 rk.length c1) (.int .i64 st) (.slice A2 M.length c2) (.slice A5 rk.length c5) v2 st rk hs (M.take q) wi))
  case atStart => exact ⟨0, _, _, Nat.zero_le _, Nat.le_refl _, rfl, HCW⟩
  case round =>
    clear HCW HD3 HBX0 HSZ fx0 HR5 HD5 HBX5
    try clear x0
    try clear k2
    obtain ⟨q, v2, hs, hq, hgg, rfl, HCW⟩ := hrel
    by_cases hlt : q < M.length
    · have hltz : (q : Int) < (M.length : Int) := by omega
      have HLT := Aside0.mk hlt
      obtain ⟨ad, A6, c6, e, hk, hl6, hrow⟩ := at_sl HM.out q hlt
      subst e
      replace hk := pw_cell_below (HCW.out).dw.hb hk
      have HROW := Aside0.mk (Kd.C_below hrow (HCW.out).dw.hb)
      have HRM := Aside0.mk (getD_memY [] hlt)
      have HKQ := Aside0.mk (show wrap64 ((q : Int) + 1) = ((q + 1 : Nat) : Int) by rw [wr_id (by omega) (by have := HMN.out; omega)]; rfl)
      have HTK := Aside0.mk (show M.take (q + 1) = M.take q ++ [M.getD q []] by rw [List.take_add_one, List.getD_eq_getElem?_getD, List.getElem?_eq_getElem hlt]; rfl)
      have HTL := Aside0.mk (show (M.take q).length = q by rw [List.length_take]; omega)
      have HLO := Aside0.mk (show w.heap.size + 3 ≤ wr.heap.size by have := blk_lt (HCW.out).bx; omega)
      clear hrow hlt hq
      generalize M.getD q [] = row at *
      have HRL := Aside0.mk (show row.length ≤ 24 by rw [(HOK.out).row row HRM.out]; exact HRN.out)
      go_wp2_with fail
      clear hk
      generalize wr = WR at *
      go_loopg [30, 6] row.length (fun gg v30 v6 wi => ∃ f : Nat, f ≤ row.length ∧ row.length - f ≤ gg ∧ v30 = .int .i64 f ∧ Aside0 (kA2.R 66 wi WR.heap.size (fun k => WR.heap.size ≤ k) v6 (row.take f)) ∧ Aside0 (Below WR.heap.size WR wi))
      case atStart => exact ⟨0, Nat.zero_le _, Nat.le_refl _, rfl, ⟨Kd.R_nil _ _ _ _ _⟩, ⟨Below.refl _ _⟩⟩
      case round =>
        obtain ⟨f, hf, hgg2, rfl, HV, HBR⟩ := hrel
        by_cases hltf : f < row.length
        · have hltfz : (f : Int) < (row.length : Int) := by omega
          have HLF := Aside0.mk hltf
          obtain ⟨ad2, A7, c7, e, hk, hl7, halt⟩ := at_sl HROW.out f hltf
          subst e
          replace hk := pw_cell_below HBR.out hk
          have HALT := Aside0.mk (Kd.C_below halt HBR.out)
          have HAM := Aside0.mk (getD_memY [] hltf)
          have HKF := Aside0.mk (show wrap64 ((f : Int) + 1) = ((f + 1 : Nat) : Int) by rw [wr_id (by omega) (by have := HRL.out; omega)]; rfl)
          have HTF := Aside0.mk (show row.take (f + 1) = row.take f ++ [row.getD f []] by rw [List.take_add_one, List.getD_eq_getElem?_getD, List.getElem?_eq_getElem hltf]; rfl)
          have HFL := Aside0.mk (show (row.take f).length = f by rw [List.length_take]; omega)
          clear halt hltf hf
          generalize row.getD f [] = alts at *
          have HAL := Aside0.mk (inN_of HOK.out HRM.out HAM.out)
          go_wp2_with fail
          clear hk
          generalize wr = WS at *
          go_loopg [36, 9] alts.length (fun gg v36 v9 wi => ∃ i : Nat, i ≤ alts.length ∧ alts.length - i ≤ gg ∧ v36 = .int .i64 i ∧ Aside0 (kA1.R 69 wi WS.heap.size (fun k => WS.heap.size ≤ k) v9 (alts.take i)) ∧ Aside0 (Below WS.heap.size WS wi))
          case atStart => exact ⟨0, Nat.zero_le _, Nat.le_refl _, rfl, ⟨Kd.R_nil _ _ _ _ _⟩, ⟨Below.refl _ _⟩⟩
          case round =>
            obtain ⟨i, hi, hgg3, rfl, HX, HBS⟩ := hrel
            by_cases hlti : i < alts.length
            · have hltiz : (i : Int) < (alts.length : Int) := by omega
              have HLI := Aside0.mk hlti
              obtain ⟨ad3, A8, c8, e, hk, hl8, hlist⟩ := at_sl HALT.out i hlti
              subst e
              replace hk := pw_cell_below HBS.out hk
              have HLC := Aside0.mk (Kd.C_below hlist HBS.out)
              have HLM := Aside0.mk (((HAL.out).2 _ (getD_memX [] hlti)).1)
              have HKI := Aside0.mk (show wrap64 ((i : Int) + 1) = ((i + 1 : Nat) : Int) by rw [wr_id (by omega) (by have := (HAL.out).1; omega)]; rfl)
              have HTI := Aside0.mk (show alts.take (i + 1) = alts.take i ++ [alts.getD i []] by rw [List.take_add_one, List.getD_eq_getElem?_getD, List.getElem?_eq_getElem hlti]; rfl)
              have HIL := Aside0.mk (show (alts.take i).length = i by rw [List.length_take]; omega)
              have HLC0 := Aside0.mk hlist
              have HXO := Aside0.mk (show ∀ k, u9.ownBlock = some k → k < wr.heap.size from fun k hk => (ownBlock_typed HX.out hk).2)
              clear hlist hlti hi
              generalize alts.getD i [] = l at *
              go_upto_region 14 with (fail)
              have HX0 := Aside0.mk (show kA1.R 69 wr WS.heap.size (fun k => WS.heap.size ≤ k ∧ k < wr.heap.size) u9 (alts.take i) from Kd.R_mono (Kd.R_bound HX.out) (fun k hk => ⟨hk.1, hk.2.2.1⟩))
              have HWS := Aside0.mk (HBS.out).size
              clear hk HX
              go_wp2_with (first | ((with_reducible refine gate_dst (N := 41) rfl ?_); refine Kd.R_lit Q.k83 (w0 := WS) WS.heap.size 83 ?hg (N := 41) ?hd (xs := ([] : List Nd)) (inner := []) (ok := fun k => wr.heap.size ≤ k) (okp := fun _ => False) ?hr ?hp (fun _ hk => hk.elim) (Nat.le_refl _) HBS.out HWS.out (by simp) ?_; (case hd => rfl); (case hg => rfl); (case hr => first | (go_simp; done) | (go_simp; rfl)); (case hp => exact (Reps.none _ _)); intro v41 w41 ho hb hg hnew; have HO41 := Aside0.mk ho; have HB41 := Aside0.mk hb; have HS41 := Aside0.mk hg.size; have HX41 := Aside0.mk (Kd.R_grown HX0.out hg (fun k _ => by simp)); clear ho hb hg hnew) | ((with_reducible refine gate_builtin (b := .append) (xs := #[.tmp 41, .tmp 42]) rfl ?_); at_builtin; refine Kd.R_append_rows Q.k83 (w0 := WS) WS.heap.size rfl (.tmp 41) (.tmp 42) 69 83 (.agg #[(.int .i64 0), (.int .i64 0)]) 16 rfl Tryz.underlying69 Q.info83 rfl (by decide) (by decide) v41 [] l A8 l.length c8 (fun k => wr.heap.size ≤ k) (fun _ => False) rfl rfl HO41.out (Kd.C_below HLC0.out HB41.out) (fun _ _ h => h) (fun _ h => h.elim) (fun k hk => Nat.le_trans HS41.out hk) HB41.out (Nat.le_trans HWS.out HS41.out) (by have := HLM.out; rw [List.length_nil]; omega) ?_; intro v43 w43 ho hb hg hat; have HO43 := Aside0.mk (show Kd.R Q.k83 83 w43 WS.heap.size (fun k => wr.heap.size ≤ k) v43 l from ho); have HB43 := Aside0.mk hb; have HS43 := Aside0.mk (Nat.le_trans HS41.out hg.size); have HX43 := Aside0.mk (Kd.R_grown HX41.out hg (fun k hk e => by have h1 : wr.heap.size ≤ k := (HO41.out).1 k e.symm; have := hk.2; omega)); (obtain ⟨A9, c9, e9⟩ := Kd.R_slice HO43.out); subst e9; clear ho hb hg hat) | ((with_reducible refine gate_builtin (b := .append) (xs := #[.tmp 40, .tmp 44]) rfl ?_); at_builtin; refine Kd.R_append kA1 (w0 := WS) WS.heap.size rfl (.tmp 40) (.tmp 44) 66 69 (.slice none 0 0) 24 rfl Tryz.underlying66 Q.info69 rfl (show 0 < 1 by decide) (by decide) u9 (alts.take i) l [.slice A9 l.length c9] (fun k => WS.heap.size ≤ k) (fun k => wr.heap.size ≤ k) rfl rfl ⟨_, rfl, HO43.out⟩ (fun k hk => ⟨Nat.le_trans HWS.out hk, fun e => by have h1 := HXO.out k e.symm; have h2 : wr.heap.size ≤ k := hk; omega⟩) (fun k hk => Nat.le_trans (Nat.le_trans HWS.out HS43.out) hk) (Kd.R_mono HX43.out (fun k hk => hk.1)) HB43.out (Nat.le_trans HWS.out HS43.out) (by rw [HIL.out]; have := HLI.out; have := (HAL.out).1; omega) ?_; intro v45 w45 ho hb hg hat; have HX45 := Aside0.mk ho; have HB45 := Aside0.mk hb; clear ho hb hg hat))
              go_roundg (alts.length - (i + 1))
              case measure => have := HLI.out; omega
              case rel => exact ⟨i + 1, HLI.out, Nat.le_refl _, by rw [HKI.out], ⟨by rw [HTI.out]; exact HX45.out⟩, HB45⟩
            · obtain rfl : i = alts.length := by omega
              have HXF := Aside0.mk (show kA1.R 69 wr WS.heap.size (fun k => WS.heap.size ≤ k) u9 alts by have := HX.out; rwa [List.take_length] at this)
              have HV2 := Aside0.mk (Kd.R_below HV.out HBS.out)
              have HVO := Aside0.mk (show ∀ k, u6.ownBlock = some k → k < WS.heap.size from fun k hk => (ownBlock_typed HV.out hk).2)
              have HBR2 := Aside0.mk (below_then HBR.out (HBR.out).size HBS.out)
              have HWS := Aside0.mk (HBS.out).size
              have HWR := Aside0.mk (HBR.out).size
              obtain ⟨A9, c9, e9⟩ := Kd.R_slice HXF.out
              subst e9
              clear hi hgg3 hlti HX HV HBR HBS
              go_wp2_with ((with_reducible refine gate_builtin (b := .append) (xs := #[.tmp 47, .tmp 49]) rfl ?_); at_builtin; refine Kd.R_append kA2 (w0 := WR) WR.heap.size rfl (.tmp 47) (.tmp 49) 65 66 (.slice none 0 0) 24 rfl Tryz.underlying65 Q.info66 rfl (show 0 < 1 by decide) (by decide) u6 (row.take f) alts [.slice A9 alts.length c9] (fun k => WR.heap.size ≤ k) (fun k => WS.heap.size ≤ k) rfl rfl ⟨_, rfl, Kd.R_lower HXF.out HWR.out⟩ (fun k hk => ⟨Nat.le_trans HWR.out hk, fun e => by have h1 := HVO.out k e.symm; have h2 : WS.heap.size ≤ k := hk; omega⟩) (fun k hk => Nat.le_trans (Nat.le_trans HWR.out HWS.out) hk) HV2.out HBR2.out (Nat.le_trans HWR.out HWS.out) (by rw [HFL.out]; have := HLF.out; have := HRL.out; omega) ?_; intro v50 w50 ho hb hg hat; have HV50 := Aside0.mk ho; have HB50 := Aside0.mk hb; clear ho hb hg hat)
              go_roundg (row.length - (f + 1))
              case measure => have := HLF.out; omega
              case rel => exact ⟨f + 1, HLF.out, Nat.le_refl _, by rw [HKF.out], ⟨by rw [HTF.out]; exact HV50.out⟩, HB50⟩
        · obtain rfl : f = row.length := by omega
          have HVF := Aside0.mk (show kA2.R 66 wr w.heap.size (fun k => WR.heap.size ≤ k) u6 row by have := HV.out; rw [List.take_length] at this; exact Kd.R_lower this (HCW.out).dw.hb.size)
          have HCW2 := Aside0.mk ((HCW.out).below HBR.out)
          have HWR := Aside0.mk (HBR.out).size
          obtain ⟨A9, c9, e9⟩ := Kd.R_slice HVF.out
          subst e9
          have HHL := Aside0.mk (show hs.length = q by rw [(HCW.out).rows.len, HTL.out])
          have x2 := (blk_cell (HCW2.out).bx 2).trans (show _ = some v2 from rfl)
          clear hf hgg2 hltf HV
          go_wp2_with ((with_reducible refine gate_builtin (b := .append) (xs := #[.tmp 53, .tmp 55]) rfl ?_); at_builtin; refine Kd.R_append kH (w0 := w) w.heap.size rfl (.tmp 53) (.tmp 55) 23 65 (.slice none 0 0) 24 rfl Tryz.underlying23 Q.info65 rfl (show 0 < 1 by decide) (by decide) v2 hs (A9, row.length, c9) [.slice A9 row.length c9] (fun k => w.heap.size + 3 ≤ k) (fun _ => False) rfl rfl rfl (fun _ hk => hk.elim) (fun k hk => Nat.le_trans (Nat.le_trans HLO.out HWR.out) hk) (HCW2.out).rows.row (HCW2.out).dw.hb (HCW2.out).dw.hb.size (by rw [HHL.out]; have := HLT.out; have := HMN.out; omega) ?_; intro v56 w56 ho hb hg hat; have HCP := Aside0.mk (CW.push (h0 := (A9, row.length, c9)) HCW.out HBR.out HVF.out ho hb hg); have HB56 := Aside0.mk (blk_grown (HCW2.out).bx hg (fun e => by have := (HCW2.out).rows.row.1 _ e.symm; omega)); have x2 := (blk_cell HB56.out 2).trans (show _ = some v2 from rfl); have f2 := blk_frozen HB56.out 2; (obtain ⟨A10, c10, e10⟩ := Kd.R_slice ho); rw [List.length_append, List.length_singleton] at e10; subst e10; clear ho hb hg hat)
          rw [← HTK.out] at HCP
          go_roundg (M.length - (q + 1))
          case measure => have := HLT.out; omega
          case rel => exact ⟨q + 1, _, _, HLT.out, Nat.le_refl _, by rw [HKQ.out], HCP⟩
    · obtain rfl : q = M.length := by omega
      rw [List.take_length] at HCW
      obtain ⟨⟨r0, r1, r2⟩, g0, g1, g2⟩ := (HCW.out).dw.rcells
      obtain ⟨A10, c10, e10⟩ := Kd.R_slice (HCW.out).rows.row
      rw [(HCW.out).rows.len] at e10
      subst e10
      have x0 := (blk_cell (HCW.out).bx 0).trans (show _ = some (Value.slice A5 rk.length c5) from rfl)
      have x1 := (blk_cell (HCW.out).bx 1).trans (show _ = some (Value.int .i64 st) from rfl)
      have x2 := (blk_cell (HCW.out).bx 2).trans (show _ = some (Value.slice A10 M.length c10) from rfl)
      have HD3 := Aside0.mk ((HCW.out).dw.put (.slice A5 rk.length c5) (.int .i64 st) (.slice A10 M.length c10))
      have HRR := Aside0.mk (Kd.R_mono (R_same (w1 := put3 wr (w.heap.size + 1) (.slice A5 rk.length c5) (.int .i64 st) (.slice A10 M.length c10)) (HCW.out).rr (fun k hk _ => put3_heap _ _ _ _ _ k (by omega))) (ok' := fun k => w.heap.size ≤ k) (fun k hk => by omega))
      have HRW := Aside0.mk ((HCW.out).rows.move (W1 := put3 wr (w.heap.size + 1) (.slice A5 rk.length c5) (.int .i64 st) (.slice A10 M.length c10)) (fun k hk _ => put3_heap _ _ _ _ _ k (by omega)))
      unfold put3 at HD3 HRR HRW
      clear hq hgg hlt
      go_wp2
      refine bodyPost_ret (results_cell_row rfl _ _ (w.heap.size + 1) 25 #[.slice A5 rk.length c5, .int .i64 st, .slice A10 M.length c10] (0, 0) _ rfl (HD3.out).h2 Tryz.underlying25 rfl (by kernel_rfl)) rfl ?_
      exact ⟨_, _, hs, rfl, HRR.out, ⟨(HRW.out).len, Kd.R_mono (HRW.out).row (fun k hk => by omega), fun q hq => Kd.R_mono ((HRW.out).rows q hq) (fun k hk => by omega), (HRW.out).sep⟩, (HD3.out).hb⟩
end Go.Proofs.YtbmcigakiibncaaGreatDoor.H
namespace Go.Proofs.YtbmcigakiibncaaGreatDoor.H
open Go.RowKit Go.Proofs.YtbmcigakiibncaaGreatDoorW.PrintWords Go.Proofs.YtbmcigakiibncaaGreatDoorW.PrintLast Go.Proofs.YtbmcigakiibncaaGreatDoorW.PrintMore
set_option linter.unusedVariables false
set_option linter.unusedSimpArgs false
theorem R_block {α : Type} {d : Kd α} {e base : Nat} {ok : Nat → Prop} {w : World} {v : Value} {xs : List α} (h : d.R e w base ok v xs) (hn : 0 < xs.length) (hs : 0 < d.sz) : ∃ g c, v = .slice (some ⟨g, 0, none⟩) xs.length c := by
  obtain ⟨_, inner, ho, hr⟩ := h
  rcases ho.2 with ⟨hv, hi⟩ | ⟨g, cap, cur, hv, _⟩
  · omega
  · exact ⟨g, cap, hv⟩
theorem kA2_E : ∀ q ∈ kA2.E, q ≠ 66 := by
  intro q hq
  simp [kA2, kA1, Kd.slice, Q.k83, Kd.iso, Kd.pair, Kd.int, Kd.scalar] at hq
  omega
theorem getD_setD {α : Type} (l : List α) (x d : α) {i : Nat} (j : Nat) (hi : i < l.length) : (l.set i x).getD j d = if j = i then x else l.getD j d := by
  rw [List.getD_eq_getElem?_getD, List.getD_eq_getElem?_getD, List.getElem?_set]
  by_cases h : i = j
  · subst h
    rw [if_pos rfl, if_pos hi, if_pos rfl]; rfl
  · rw [if_neg h, if_neg (fun e => h e.symm)]
theorem Rows.at {b lo : Nat} {W : World} {v : Value} {hs : List Hd} {xs : Mv} (h : Rows b lo W v hs xs) {q f : Nat} (hq : q < xs.length) (hf : f < (xs.getD q []).length) :
    ∃ gt c g n, v = .slice (some ⟨gt, 0, none⟩) xs.length c ∧ hs.getD q zH = (some ⟨g, 0, none⟩, (xs.getD q []).length, n) ∧ W.cell? ⟨gt, q, none⟩ = some (.slice (some ⟨g, 0, none⟩) (xs.getD q []).length n) ∧ g < W.heap.size ∧ lo ≤ g ∧
      kA2.R 66 W b (fun k => lo ≤ k) (.slice (some ⟨g, 0, none⟩) (xs.getD q []).length n) (xs.getD q []) := by
  obtain ⟨gt, c, hv⟩ := R_block h.row (by rw [h.len]; omega) (by decide)
  have hr := h.rows q hq
  obtain ⟨g, n, hg⟩ := R_block hr (by omega) (by decide)
  rw [hg] at hr
  have hh : hs.getD q zH = (some ⟨g, 0, none⟩, (xs.getD q []).length, n) := by
    have e' : Value.slice (hs.getD q zH).1 (hs.getD q zH).2.1 (hs.getD q zH).2.2 = .slice (some ⟨g, 0, none⟩) (xs.getD q []).length n := hg
    injection e' with e1 e2 e3
    rw [← e1, ← e2, ← e3]
  have hob := ownBlock_typed hr (k := g) rfl
  refine ⟨gt, c, g, n, by rw [hv, h.len], hh, ?_, hob.2, hr.1 g rfl, hr⟩
  have hrow := h.row
  rw [hv] at hrow
  obtain ⟨_, _, hC⟩ := Kd.R_reads' hrow
  obtain ⟨ad, cs, e, _, hK, hc0⟩ := Kd.C_get hC zH (q : Int) (by omega) (by rw [h.len]; omega)
  injection e with e
  subst e
  rw [Int.toNat_natCast] at hK
  have hK' : cs = [encH (hs.getD q zH)] := hK
  subst hK'
  have h0 := hc0 0 _ rfl
  rw [Int.toNat_natCast, show kH.sz = 1 from rfl, Nat.mul_one, Nat.add_zero, hh, show (Addr.add ⟨gt, 0, none⟩ q) = ⟨gt, q, none⟩ by simp [Addr.add]; exact fun h => h.symm] at h0
  exact h0
theorem Rows.put {b lo : Nat} {W : World} {v v9 : Value} {hs : List Hd} {xs : Mv} {x : List (List Nd)} (h : Rows b lo W v hs xs) {q f g n : Nat} (hq : q < xs.length) (hf : f < (xs.getD q []).length)
    (hh : hs.getD q zH = (some ⟨g, 0, none⟩, (xs.getD q []).length, n)) {okp : Nat → Prop} (hR : kA1.R 69 W b okp v9 x) (hok : ∀ k, okp k → lo ≤ k ∧ k ≠ g) :
    Rows b lo (W.setCell ⟨g, f, none⟩ v9) v hs (xs.set q ((xs.getD q []).set f x)) := by
  have hr := h.rows q hq
  rw [hh] at hr
  have hr' : kA2.R 66 W b (fun k => lo ≤ k) (.slice (some ⟨g, 0, none⟩) (xs.getD q []).length n) (xs.getD q []) := hr
  obtain ⟨⟨cg, hcg⟩, hgl⟩ := ownBlock_typed hr' (k := g) rfl
  obtain ⟨hW2, hgr⟩ := R_puts hr' f hf hR hok
  refine ⟨by rw [List.length_set]; exact h.len, ?_, fun q' hq' => ?_, fun q1 q2 h1 h2 hne k hk => ?_⟩
  · exact R_other h.row g (fun e => by obtain ⟨⟨c, hc⟩, _⟩ := ownBlock_typed h.row e; exact types_ne hc hcg (by decide) rfl) (fun _ h => by cases h) (fun k hk _ => Below.heap_setCell _ _ _ k hk)
  · rw [List.length_set] at hq'
    rw [getD_setD xs _ [] q' hq]
    split
    · rename_i e
      subst e
      rw [hh]
      exact hW2
    · rename_i e
      refine R_other (h.rows q' hq') g ?_ ?_ (fun k hk _ => Below.heap_setCell _ _ _ k hk)
      · exact h.sep q q' hq hq' (fun he => e he.symm) g (by rw [hh]; rfl)
      · intro t ht cells hc
        rw [hcg] at hc
        injection hc with hc
        injection hc with _ hc _
        exact kA2_E t ht hc.symm
  · rw [List.length_set] at h1 h2
    exact h.sep q1 q2 h1 h2 hne k hk
theorem Rows.done {b lo : Nat} {W : World} {v : Value} {hs : List Hd} {xs : Mv} (h : Rows b lo W v hs xs) : kA3.R 65 W b (fun k => lo ≤ k) v xs := by
  obtain ⟨h1, inner, ho, hr⟩ := h.row
  refine ⟨h1, inner, ?_, ?_⟩
  · rw [← h.len]; exact ho
  · refine ⟨by rw [hr.1, h.len]; rfl, fun j p hj => ?_⟩
    have hlt := (List.getElem?_eq_some_iff.1 hj).1
    have hp : xs.getD j [] = p := by rw [List.getD_eq_getElem?_getD, hj]; rfl
    have hlt2 : j < hs.length := by rw [h.len]; exact hlt
    have hh : hs[j]? = some (hs.getD j zH) := by rw [List.getD_eq_getElem?_getD, List.getElem?_eq_getElem hlt2]; rfl
    have h2 := hr.2 j _ hh
    have q := h.rows j hlt
    rw [hp] at q
    refine ⟨encH (hs.getD j zH), h2, ?_⟩
    cases hob : v.ownBlock with
    | none => exact Kd.R_mono q (fun k hk => ⟨hk, fun e => by cases e⟩)
    | some gt =>
      obtain ⟨⟨cg, hcg⟩, _⟩ := ownBlock_typed h.row hob
      exact Kd.R_mono (Kd.R_types q hcg (by
        intro t ht
        rcases List.mem_cons.1 ht with rfl | ht
        · decide
        · intro e
          subst e
          simp [kA2, kA1, Kd.slice, Q.k83, Kd.iso, Kd.pair, Kd.int, Kd.scalar] at ht)) (fun k hk => ⟨hk.1, fun e => hk.2 (Option.some.inj e)⟩)
def mixD (row : List (List (List Nd))) (f : Nat) : List (List (List Nd)) := (row.take f).map dualD ++ row.drop f
theorem mixD_length (row : List (List (List Nd))) (f : Nat) : (mixD row f).length = row.length := by
  unfold mixD
  rw [List.length_append, List.length_map, List.length_take, List.length_drop]; omega
theorem mixD_zero (row : List (List (List Nd))) : mixD row 0 = row := rfl
theorem mixD_all (row : List (List (List Nd))) : mixD row row.length = rowD row := by
  unfold mixD rowD
  rw [List.take_length, List.drop_length, List.append_nil]
theorem mixD_set (row : List (List (List Nd))) {f : Nat} (hf : f < row.length) : (mixD row f).set f (dualD (row.getD f [])) = mixD row (f + 1) := by
  unfold mixD
  have hl : ((row.take f).map dualD).length = f := by rw [List.length_map, List.length_take]; omega
  rw [List.set_append_right _ _ (by omega), hl, Nat.sub_self, drop_get row [] hf, List.set_cons_zero, List.take_add_one, List.map_append, List.append_assoc, List.getD_eq_getElem?_getD, List.getElem?_eq_getElem hf]
  rfl
def outA (M : Mv) (q : Nat) : Mv := (M.take q).map rowD ++ M.drop q
def outB (M : Mv) (q f : Nat) : Mv := (outA M q).set q (mixD (M.getD q []) f)
theorem outA_length (M : Mv) (q : Nat) : (outA M q).length = M.length := by
  unfold outA
  rw [List.length_append, List.length_map, List.length_take, List.length_drop]; omega
theorem outB_length (M : Mv) (q f : Nat) : (outB M q f).length = M.length := by unfold outB; rw [List.length_set, outA_length]
theorem outA_all (M : Mv) : outA M M.length = M.map rowD := by unfold outA; rw [List.take_length, List.drop_length, List.append_nil]
theorem outB_at (M : Mv) {q : Nat} (hq : q < M.length) (f : Nat) : (outB M q f).getD q [] = mixD (M.getD q []) f := by
  unfold outB
  rw [getD_setD _ _ _ _ (by rw [outA_length]; exact hq), if_pos rfl]
theorem outA_set (M : Mv) {q : Nat} (hq : q < M.length) (y : List (List (List Nd))) : (outA M q).set q y = (M.take q).map rowD ++ y :: M.drop (q + 1) := by
  unfold outA
  have hl : ((M.take q).map rowD).length = q := by rw [List.length_map, List.length_take]; omega
  rw [List.set_append_right _ _ (by omega), hl, Nat.sub_self, drop_get M [] hq, List.set_cons_zero]
theorem outB_zero (M : Mv) {q : Nat} (hq : q < M.length) : outB M q 0 = outA M q := by
  unfold outB
  rw [outA_set M hq, mixD_zero]
  unfold outA
  rw [drop_get M [] hq]
theorem outB_set (M : Mv) {q f : Nat} (hf : f < (M.getD q []).length) : (outB M q f).set q ((mixD (M.getD q []) f).set f (dualD ((M.getD q []).getD f []))) = outB M q (f + 1) := by
  unfold outB
  rw [mixD_set _ hf, List.set_set]
theorem outB_all (M : Mv) {q : Nat} (hq : q < M.length) : outB M q (M.getD q []).length = outA M (q + 1) := by
  unfold outB
  rw [outA_set M hq, mixD_all]
  unfold outA
  rw [List.take_add_one, List.map_append, List.append_assoc, List.getD_eq_getElem?_getD, List.getElem?_eq_getElem hq]; rfl
structure EO (w : World) (b5 : Nat) (a0 a1 a2 v1 v2 : Value) (st : Int) (rk : List Int) (hs : List Hd) (xs : Mv) (W : World) : Prop where
  dw : DW w W a0 a1 a2 (.slice none 0 0) (.int .i64 0) (.slice none 0 0)
  bx : W.heap[b5]? = some (.cells #[v1, .int .i64 st, v2] 25 (0, 0))
  hbl : w.heap.size + 1 < b5
  rr : Kd.R (Kd.int .i64) 3 W w.heap.size (fun k => w.heap.size + 2 ≤ k) v1 rk
  rows : Rows w.heap.size (w.heap.size + 2) W v2 hs xs
theorem EO.below {w : World} {b5 : Nat} {a0 a1 a2 v1 v2 : Value} {st : Int} {rk : List Int} {hs : List Hd} {xs : Mv} {W W1 : World} (h : EO w b5 a0 a1 a2 v1 v2 st rk hs xs W) (hb : Below W.heap.size W W1) : EO w b5 a0 a1 a2 v1 v2 st rk hs xs W1 :=
  ⟨h.dw.below hb, blk_below h.bx hb, h.hbl, Kd.R_below h.rr hb, h.rows.below hb⟩
theorem EO.put {w : World} {b5 : Nat} {a0 a1 a2 v1 v2 v9 : Value} {st : Int} {rk : List Int} {hs : List Hd} {xs : Mv} {W : World} {x : List (List Nd)} (h : EO w b5 a0 a1 a2 v1 v2 st rk hs xs W) {q f g n : Nat} (hq : q < xs.length) (hf : f < (xs.getD q []).length)
    (hh : hs.getD q zH = (some ⟨g, 0, none⟩, (xs.getD q []).length, n)) {okp : Nat → Prop} (hR : kA1.R 69 W w.heap.size okp v9 x) (hok : ∀ k, okp k → w.heap.size + 2 ≤ k ∧ k ≠ g) :
    EO w b5 a0 a1 a2 v1 v2 st rk hs (xs.set q ((xs.getD q []).set f x)) (W.setCell ⟨g, f, none⟩ v9) := by
  have hr := h.rows.rows q hq
  rw [hh] at hr
  have hr' : kA2.R 66 W w.heap.size (fun k => w.heap.size + 2 ≤ k) (.slice (some ⟨g, 0, none⟩) (xs.getD q []).length n) (xs.getD q []) := hr
  obtain ⟨⟨cg, hcg⟩, hgl⟩ := ownBlock_typed hr' (k := g) rfl
  have hlo : w.heap.size + 2 ≤ g := hr'.1 g rfl
  refine ⟨h.dw.far hlo v9, blk_far h.bx (fun e => types_ne h.bx hcg (by decide) e) v9, h.hbl, ?_, h.rows.put hq hf hh hR hok⟩
  exact R_other h.rr g (fun e => by obtain ⟨⟨c, hc⟩, _⟩ := ownBlock_typed h.rr e; exact types_ne hc hcg (by decide) rfl) (fun _ h => by cases h) (fun k hk _ => Below.heap_setCell _ _ _ k hk)
end Go.Proofs.YtbmcigakiibncaaGreatDoor.H
namespace Go.Proofs.YtbmcigakiibncaaGreatDoor.H
open Go.RowKit Go.Proofs.YtbmcigakiibncaaGreatDoorW.PrintWords Go.Proofs.YtbmcigakiibncaaGreatDoorW.PrintLast Go.Proofs.YtbmcigakiibncaaGreatDoorW.PrintMore
set_option linter.unusedVariables false
set_option linter.unusedSimpArgs false
set_option maxHeartbeats 16000000 in
set_option maxRecDepth 1000000 in
theorem rdual_calls (rk : List Int) (M : Mv) (st : Int) (A1 : Option Addr) (c1 : Nat) (A2 : Option Addr) (c2 : Nat) (w : World)
    (hr : Kd.C (Kd.int .i64) w A1 rk.length rk) (hc1 : rk.length ≤ c1) (hM : Kd.C kA3 w A2 M.length M) (hc2 : M.length ≤ c2) :
    Calls Tryz.prog 22 #[.agg #[.slice A1 rk.length c1, .int .i64 st, .slice A2 M.length c2]] w (DualRE (dualR rk st M) w) := by
  have HR := Aside0.mk hr
  have HM := Aside0.mk hM
  have HC1 := Aside0.mk hc1
  have HC2 := Aside0.mk hc2
  have hu25 := Tryz.underlying25
  clear hr hM hc1 hc2
  go_enter Tryz.func22, Tryz.ntmps22
  go_upto_region 1 with (fail)
  have HD0 := Aside0.mk (DW.start w (.slice A1 rk.length c1) (.int .i64 st) (.slice A2 M.length c2))
  generalize ((w.alloc (.cells #[.slice A1 rk.length c1, .int .i64 st, .slice A2 M.length c2] 25)).alloc (.cells #[.slice none 0 0, .int .i64 0, .slice none 0 0] 25)) = W0 at *
  obtain ⟨k0, k1, k2⟩ := (HD0.out).cells
  have HIS := Aside0.mk (isA_calls rk M st A1 c1 A2 c2 W0 (Kd.C_below HR.out (HD0.out).hb) HC1.out (Kd.C_below HM.out (HD0.out).hb) HC2.out)
  go_wp2_with fail
  refine (HIS.out).mono ?_
  rintro E W1 ⟨rfl, hb⟩
  have HD1 := Aside0.mk ((HD0.out).below hb)
  clear hb HIS HD0 k0 k1 k2
  cases hv : auB rk st M with
  | false =>
    have HP := Aside0.mk (show dualR rk st M = (10, [], 0, []) by unfold dualR; rw [if_neg (by rw [hv]; decide)])
    clear hv
    obtain ⟨⟨r0, r1, r2⟩, f0, f1, f2⟩ := (HD1.out).rcells
    have HD3 := Aside0.mk ((HD1.out).put (.slice none 0 0) (.int .i64 0) (.slice none 0 0))
    unfold put3 at HD3
    go_wp2
    refine bodyPost_ret (results_row_tmp rfl _ _ (w.heap.size + 1) 25 #[.slice none 0 0, .int .i64 0, .slice none 0 0] (0, 0) _ rfl (HD3.out).h2 Tryz.underlying25 rfl (by kernel_rfl)) rfl ?_
    rw [HP.out]
    exact ⟨_, _, rfl, Kd.R_nil _ _ _ _ _, Kd.R_nil _ _ _ _ _, (HD3.out).hb⟩
  | true =>
    have HOK := Aside0.mk (auOk hv)
    have HGA := Aside0.mk (au_good hv)
    have HPR := Aside0.mk (show dualR rk st M = if mvOkD M then (0, rk, st, M.map rowD) else (3, [], 0, []) by unfold dualR; rw [if_pos hv])
    have HMN := Aside0.mk ((HOK.out).nM)
    clear hv
    obtain ⟨k0, k1, k2⟩ := (HD1.out).cells
    have HCP := Aside0.mk (copy2_calls HOK.out A1 c1 A2 c2 W1 (Kd.C_below HR.out (HD1.out).hb) HC1.out (Kd.C_below HM.out (HD1.out).hb) HC2.out)
    go_wp2_with fail
    refine (HCP.out).mono ?_
    rintro E W2 ⟨v1, v2, hs, rfl, hR1, hRW, hb⟩
    have HS1 := Aside0.mk (show w.heap.size + 2 ≤ W1.heap.size by have := blk_lt (HD1.out).h2; omega)
    have HRR := Aside0.mk (Kd.R_lower (Kd.R_mono hR1 (ok' := fun k => w.heap.size + 2 ≤ k) (fun k hk => Nat.le_trans HS1.out hk)) (show w.heap.size ≤ W1.heap.size by have := HS1.out; omega))
    have HRW := Aside0.mk (show Rows w.heap.size (w.heap.size + 2) W2 v2 hs M from ⟨hRW.len, Kd.R_lower (Kd.R_mono hRW.row (fun k hk => Nat.le_trans HS1.out hk)) (by have := HS1.out; omega), fun q hq => Kd.R_lower (Kd.R_mono (hRW.rows q hq) (fun k hk => Nat.le_trans HS1.out hk)) (by have := HS1.out; omega), hRW.sep⟩)
    have HD2 := Aside0.mk ((HD1.out).below hb)
    obtain ⟨A9, c9, e9⟩ := Kd.R_slice HRR.out
    subst e9
    obtain ⟨A10, c10, e10⟩ := Kd.R_slice (HRW.out).row
    rw [(HRW.out).len] at e10
    subst e10
    have HS2 := Aside0.mk (Nat.le_trans HS1.out hb.size)
    clear hR1 hRW hb HCP HD1 HS1 k0 k1 k2
    obtain ⟨k0, k1, k2⟩ := (HD2.out).cells
    go_upto_region 4 with (fail)
    have hba := below_alloc (Below.refl W2.heap.size W2) (.cells #[.slice A9 rk.length c9, .int .i64 st, .slice A10 M.length c10] 25)
    have HO0 := Aside0.mk (show EO w W2.heap.size (.slice A1 rk.length c1) (.int .i64 st) (.slice A2 M.length c2) (.slice A9 rk.length c9) (.slice A10 M.length c10) st rk hs M (W2.alloc (.cells #[.slice A9 rk.length c9, .int .i64 st, .slice A10 M.length c10] 25)) from
      ⟨(HD2.out).below hba, blk_new W2 _, HS2.out, Kd.R_below HRR.out hba, (HRW.out).below hba⟩)
    clear hba HRR HRW HD2
    generalize W2.alloc (.cells #[.slice A9 rk.length c9, .int .i64 st, .slice A10 M.length c10] 25) = W3 at *
    generalize W2.heap.size = b5 at *
    clear k0 k1 k2
    obtain ⟨_, _, k2⟩ := (HO0.out).dw.cells
    go_wp2_with fail
    clear k2
    go_loopg [18] M.length (fun gg v18 wi => ∃ q : Nat, q ≤ M.length ∧ M.length - q ≤ gg ∧ v18 = .int .i64 q ∧ Aside0 (EO w b5 (.slice A1 rk.length c1) (.int .i64 st) (.slice A2 M.length c2) (.slice A9 rk.length c9) (.slice A10 M.length c10) st rk hs (outA M q) wi) ∧ Aside0 (mvOkD (M.take q) = true))
    case atStart => exact ⟨0, Nat.zero_le _, Nat.le_refl _, rfl, HO0, ⟨rfl⟩⟩
    case round =>
      clear HO0
      obtain ⟨q, hq, hgg, rfl, HO, HV⟩ := hrel
      by_cases hlt : q < M.length
      · have hltz : (q : Int) < (M.length : Int) := by omega
        have HLT := Aside0.mk hlt
        obtain ⟨ad, A0, c0, e, hk, hc0, hrow⟩ := at_sl HM.out q hlt
        subst e
        replace hk := pw_cell_below (HO.out).dw.hb hk
        have HROW := Aside0.mk hrow
        have HRM := Aside0.mk (getD_memY [] hlt)
        have HKQ := Aside0.mk (show wrap64 ((q : Int) + 1) = ((q + 1 : Nat) : Int) by rw [wr_id (by omega) (by have := HMN.out; omega)]; rfl)
        have HTV := Aside0.mk (show mvOkD (M.take (q + 1)) = (mvOkD (M.take q) && (M.getD q []).all dualOk) by
          unfold mvOkD
          rw [List.take_add_one, List.all_append, List.getD_eq_getElem?_getD, List.getElem?_eq_getElem hlt]; simp)
        have HO0 := Aside0.mk (show EO w b5 (.slice A1 rk.length c1) (.int .i64 st) (.slice (some ad) M.length c2) (.slice A9 rk.length c9) (.slice A10 M.length c10) st rk hs (outB M q 0) wr by rw [outB_zero M hlt]; exact HO.out)
        have HBA := Aside0.mk (fun f => outB_at M hlt f)
        have HBS := Aside0.mk (fun f (hf : f < (M.getD q []).length) => outB_set M hf)
        have HBE := Aside0.mk (outB_all M hlt)
        have HBL := Aside0.mk (fun f => outB_length M q f)
        generalize hrw : M.getD q [] = row at *
        have HRL2 := Aside0.mk (show row.length ≤ 24 by rw [(HOK.out).row row HRM.out]; exact (HOK.out).nrk)
        clear hc0 hrow hq hrw HO hlt
        go_wp2_with fail
        clear hk
        go_loopg [25] row.length (fun gg v25 wi => ∃ f : Nat, f ≤ row.length ∧ row.length - f ≤ gg ∧ v25 = .int .i64 f ∧ Aside0 (EO w b5 (.slice A1 rk.length c1) (.int .i64 st) (.slice (some ad) M.length c2) (.slice A9 rk.length c9) (.slice A10 M.length c10) st rk hs (outB M q f) wi) ∧ Aside0 ((row.take f).all dualOk = true))
        case atStart => exact ⟨0, Nat.zero_le _, Nat.le_refl _, rfl, HO0, ⟨rfl⟩⟩
        case round =>
          clear HO0
          obtain ⟨f, hf, hgg2, rfl, HO, HA⟩ := hrel
          by_cases hltf : f < row.length
          · have hltfz : (f : Int) < (row.length : Int) := by omega
            have HLF := Aside0.mk hltf
            obtain ⟨ad3, A7, c7, e, hk, hc3, halt⟩ := at_sl HROW.out f hltf
            subst e
            replace hk := pw_cell_below (HO.out).dw.hb hk
            have HAM := Aside0.mk (getD_memY [] hltf)
            have HKF := Aside0.mk (show wrap64 ((f : Int) + 1) = ((f + 1 : Nat) : Int) by rw [wr_id (by omega) (by have := HRL2.out; omega)]; rfl)
            have HTA := Aside0.mk (show (row.take (f + 1)).all dualOk = ((row.take f).all dualOk && dualOk (row.getD f [])) by
              rw [List.take_add_one, List.all_append, List.getD_eq_getElem?_getD, List.getElem?_eq_getElem hltf]; simp)
            have HGD := Aside0.mk ((HGA.out) row HRM.out _ HAM.out)
            have HBSF := Aside0.mk ((HBS.out) f hltf)
            have HALT := Aside0.mk (Kd.C_below halt (HO.out).dw.hb)
            clear hc3 halt hf hltf
            generalize row.getD f [] = alts at *
            have HML := Aside0.mk (show (mixD row f).length = row.length from mixD_length row f)
            have HFM := Aside0.mk (show f < (mixD row f).length by rw [HML.out]; exact HLF.out)
            have HQL := Aside0.mk (show q < (outB M q f).length by rw [(HBL.out) f]; exact HLT.out)
            obtain ⟨gt, ct, g, n, e10, hh, hcg, hgl, hlo, hRg⟩ := (HO.out).rows.at (q := q) (f := f) HQL.out (by rw [(HBA.out) f]; exact HFM.out)
            rw [(HBL.out) f] at e10
            injection e10 with e10 _ e11
            subst e10 e11
            rw [(HBA.out) f] at hh hcg hRg
            have HHH := Aside0.mk hh
            rw [HML.out] at hcg
            have hdr := below_drew (Below.refl wr.heap.size wr)
            have HOd := Aside0.mk ((HO.out).below hdr)
            have HCG := Aside0.mk (pw_cell_below hdr hcg)
            have HRG := Aside0.mk (Kd.R_below hRg hdr)
            have HGG := Aside0.mk (show g < wr.drew.heap.size from hgl)
            have HLO := Aside0.mk hlo
            have HDL := Aside0.mk (dualC_calls alts A7 c7 wr.drew (Kd.C_below HALT.out hdr) HGD.out)
            have HMS := Aside0.mk (HOd.out).dw.hb.size
            clear hh hcg hRg hgl hlo hdr HO
            go_upto_region 10 with (fail)
            clear hk
            refine wp_region_noPanic ?_
            refine start_ (n := 10) (S := fun w' => w'.cell? ⟨b5, 2, none⟩ = some (.slice (some ⟨gt, 0, none⟩) M.length c10) ∧ w'.cell? ⟨gt, q, none⟩ = some (.slice (some ⟨g, 0, none⟩) row.length n)) (ds := [9]) #[false, false, false, false, false, false, false, false, false, false] (by kernel_rfl) rfl rfl ⟨(blk_cell (HOd.out).bx 2).trans rfl, HCG.out⟩ (fun hHeld => ?_)
            refine with_tabW tab22 bits22 (fun HT_ HW_ => ?_)
            generalize wr.drew = W5 at HOd HCG HRG HGG HDL hHeld ⊢
            refine take_ (i := 0) (N := some 30) (v := ?_) (a' := ?_) #[true, false, false, false, false, false, false, false, false, false] rfl rfl (take_ofW HT_.out HW_.out (by kernel_rfl)) (fun _ _ _ h => h) (Or.inl ⟨by rfl, ?_⟩) hHeld ?_ ?_
            rotate_left
            · rintro w' ⟨s0, s1⟩
              go_simp
              with_reducible rfl
            rotate_left
            · simp only [Act.put, List.setIfInBounds_toArray, List.set_cons_zero, List.set_cons_succ]
              rfl
            refine take_ (i := 1) (N := some 31) (v := ?_) (a' := ?_) #[true, true, false, false, false, false, false, false, false, false] rfl rfl (take_ofW HT_.out HW_.out (by kernel_rfl)) (fun _ _ _ h => h) (Or.inl ⟨by rfl, ?_⟩) hHeld ?_ ?_
            rotate_left
            · rintro w' ⟨s0, s1⟩
              go_simp
              with_reducible rfl
            rotate_left
            · simp only [Act.put, List.setIfInBounds_toArray, List.set_cons_zero, List.set_cons_succ]
              rfl
            refine take_ (i := 2) (N := some 32) (v := ?_) (a' := ?_) #[true, true, true, false, false, false, false, false, false, false] rfl rfl (take_ofW HT_.out HW_.out (by kernel_rfl)) (fun _ _ _ h => h) (Or.inl ⟨by rfl, ?_⟩) hHeld ?_ ?_
            rotate_left
            · rintro w' ⟨s0, s1⟩
              go_simp
              with_reducible rfl
            rotate_left
            · simp only [Act.put, List.setIfInBounds_toArray, List.set_cons_zero, List.set_cons_succ]
              rfl
            refine take_ (i := 3) (N := some 33) (v := ?_) (a' := ?_) #[true, true, true, true, false, false, false, false, false, false] rfl rfl (take_ofW HT_.out HW_.out (by kernel_rfl)) (fun _ _ _ h => h) (Or.inl ⟨by rfl, ?_⟩) hHeld ?_ ?_
            rotate_left
            · rintro w' ⟨s0, s1⟩
              go_simp
              with_reducible rfl
            rotate_left
            · simp only [Act.put, List.setIfInBounds_toArray, List.set_cons_zero, List.set_cons_succ]
              rfl
            refine take_ (i := 4) (N := some 34) (v := ?_) (a' := ?_) #[true, true, true, true, true, false, false, false, false, false] rfl rfl (take_ofW HT_.out HW_.out (by kernel_rfl)) (fun _ _ _ h => h) (Or.inl ⟨by rfl, ?_⟩) hHeld ?_ ?_
            rotate_left
            · rintro w' ⟨s0, s1⟩
              go_simp
              with_reducible rfl
            rotate_left
            · simp only [Act.put, List.setIfInBounds_toArray, List.set_cons_zero, List.set_cons_succ]
              rfl
            refine take_ (i := 5) (N := some 35) (v := ?_) (a' := ?_) #[true, true, true, true, true, true, false, false, false, false] rfl rfl (take_ofW HT_.out HW_.out (by kernel_rfl)) (fun _ _ _ h => h) (Or.inl ⟨by rfl, ?_⟩) hHeld ?_ ?_
            rotate_left
            · rintro w' ⟨s0, s1⟩
              go_simp
              with_reducible rfl
            rotate_left
            · simp only [Act.put, List.setIfInBounds_toArray, List.set_cons_zero, List.set_cons_succ]
              rfl
            refine take_ (i := 6) (N := some 36) (v := ?_) (a' := ?_) #[true, true, true, true, true, true, true, false, false, false] rfl rfl (take_ofW HT_.out HW_.out (by kernel_rfl)) (fun _ _ _ h => h) (Or.inl ⟨by rfl, ?_⟩) hHeld ?_ ?_
            rotate_left
            · rintro w' ⟨s0, s1⟩
              go_simp
              with_reducible rfl
            rotate_left
            · simp only [Act.put, List.setIfInBounds_toArray, List.set_cons_zero, List.set_cons_succ]
              rfl
            refine one_ (i := 7) (N := some 37) #[true, true, true, true, true, true, true, true, false, false] rfl rfl (one_of HT_.out (by kernel_rfl)) (by decide) (fun K hK => ?_)
            refine goes_ (f := 51) Tryz.func51 (by kernel_rfl) rfl #[.slice A7 alts.length c7] (by rfl) rfl rfl (by (try simp only [List.map_toArray, List.map_cons, List.map_nil]); rfl) ?_
            refine (HDL.out).mono ?_
            rintro E W9 ⟨v9, rfl, hR9, hb⟩
            have HO9 := Aside0.mk ((HOd.out).below hb)
            have HR9 := Aside0.mk (show kA1.R 69 W9 w.heap.size (fun k => W5.heap.size ≤ k) v9 (dualF alts) from Kd.R_lower hR9 (HOd.out).dw.hb.size)
            have HCG9 := Aside0.mk (pw_cell_below hb HCG.out)
            have HRG9 := Aside0.mk (Kd.R_below HRG.out hb)
            clear hb hR9
            refine ⟨_, rfl, ?_⟩
            refine hK.out _ _ ⟨(blk_cell (HO9.out).bx 2).trans rfl, HCG9.out⟩ (fun hHeld => ?_)
            clear hK K
            refine norm_ (a' := ?_) ?_ ?_
            rotate_left
            · show Act.put _ (some 37) _ = _
              simp only [Act.put, List.setIfInBounds_toArray, List.set_cons_zero, List.set_cons_succ]
              rfl
            refine take_ (i := 8) (N := some 38) (v := ?_) (a' := ?_) #[true, true, true, true, true, true, true, true, true, false] rfl rfl (take_ofW HT_.out HW_.out (by kernel_rfl)) (fun _ _ _ h => h) (Or.inl ⟨by rfl, ?_⟩) hHeld ?_ ?_
            rotate_left
            · rintro w' ⟨s0, s1⟩
              go_simp
              with_reducible rfl
            rotate_left
            · simp only [Act.put, List.setIfInBounds_toArray, List.set_cons_zero, List.set_cons_succ]
              rfl
            obtain ⟨uc, hcu, hfu⟩ := R_cell1 HRG9.out f HFM.out
            obtain ⟨A12, c12, e12⟩ := Kd.R_slice HR9.out
            subst e12
            refine last_ (i := 9) (N := none) #[true, true, true, true, true, true, true, true, true, true] rfl rfl (one_of HT_.out (by kernel_rfl)) (by decide) (fun K hK => ?_)
            refine skip_ (w1 := ?_) (by rfl) rfl ?_ ?_
            rotate_left
            · go_simp
              rfl
            refine hK.out _ _ ?_
            clear hK K
            refine done_ (done_of HT_.out (by kernel_rfl)) ?_
            refine NoPanic.normal ?_
            have HO10 := Aside0.mk (show EO w b5 (.slice A1 rk.length c1) (.int .i64 st) (.slice (some ad) M.length c2) (.slice A9 rk.length c9) (.slice (some ⟨gt, 0, none⟩) M.length c10) st rk hs ((outB M q f).set q ((mixD row f).set f (dualF alts))) (W9.setCell ⟨g, f, none⟩ (.slice A12 (dualF alts).length c12)) from by
              have h := (HO9.out).put (q := q) (f := f) (g := g) (n := n) HQL.out (by rw [(HBA.out) f]; exact HFM.out) (by rw [(HBA.out) f]; exact HHH.out) HR9.out (fun k hk => ⟨by have h1 : W5.heap.size ≤ k := hk; have h2 := HGG.out; have h3 := HLO.out; omega, by have h1 : W5.heap.size ≤ k := hk; have h2 := HGG.out; omega⟩)
              rw [(HBA.out) f] at h
              exact h)
            have hcf : (W9.setCell ⟨g, f, none⟩ (.slice A12 (dualF alts).length c12)).cell? ⟨g, f, none⟩ = some (.slice A12 (dualF alts).length c12) := World.cell?_setCell_same _ _ _ hcu
            have hct : (W9.setCell ⟨g, f, none⟩ (.slice A12 (dualF alts).length c12)).cell? ⟨gt, q, none⟩ = some (.slice (some ⟨g, 0, none⟩) row.length n) := (World.cell?_of_block (Below.heap_setCell W9 ⟨g, f, none⟩ _ gt (by
              obtain ⟨⟨ca, hca⟩, _⟩ := ownBlock_typed (HO9.out).rows.row (k := gt) rfl
              obtain ⟨⟨cb, hcb⟩, _⟩ := ownBlock_typed HRG9.out (k := g) rfl
              exact types_ne hca hcb (by decide)))).trans HCG9.out
            clear HO9 HR9 HCG9 HRG9 HOd HCG HRG HGG HDL HT_ HW_ hHeld hcu hfu HMS HALT HHH HLO
            generalize W9.setCell ⟨g, f, none⟩ (.slice A12 (dualF alts).length c12) = W10 at *
            have hcb : W10.cell? ⟨b5, 2, none⟩ = some (.slice (some ⟨gt, 0, none⟩) M.length c10) := (blk_cell (HO10.out).bx 2).trans rfl
            have HDO := Aside0.mk (dualF_ok HGD.out)
            have HDD := Aside0.mk (dualF_D HGD.out)
            cases hok : dualOk alts with
            | false =>
              have hgt12 : (12 : Int) < ((dualF alts).length : Int) := by
                have h := HDO.out
                rw [hok] at h
                have := of_decide_eq_false h.symm
                omega
              have HP := Aside0.mk (show dualR rk st M = (3, [], 0, []) by
                rw [HPR.out, if_neg]
                intro h
                have h1 := List.all_eq_true.1 (List.all_eq_true.1 h row HRM.out) alts HAM.out
                rw [hok] at h1
                cases h1)
              clear hok HDO HDD
              obtain ⟨⟨k0, k1, k2⟩, f0, f1, f2⟩ := (HO10.out).dw.rcells
              have HD3 := Aside0.mk ((HO10.out).dw.put (.slice none 0 0) (.int .i64 0) (.slice none 0 0))
              unfold put3 at HD3
              clear HO10
              go_wp2
              refine bodyPost_ret (results_row_tmp rfl _ _ (w.heap.size + 1) 25 #[.slice none 0 0, .int .i64 0, .slice none 0 0] (0, 0) _ rfl (HD3.out).h2 Tryz.underlying25 rfl (by kernel_rfl)) rfl ?_
              rw [HP.out]
              exact ⟨_, _, rfl, Kd.R_nil _ _ _ _ _, Kd.R_nil _ _ _ _ _, (HD3.out).hb⟩
            | true =>
              have hgt12 : ¬ (12 : Int) < ((dualF alts).length : Int) := by
                have h := HDO.out
                rw [hok] at h
                have := of_decide_eq_true h.symm
                omega
              have HA2 := Aside0.mk (show (row.take (f + 1)).all dualOk = true by rw [HTA.out, HA.out, hok]; rfl)
              have HO2 := HO10
              rw [HDD.out hok, HBSF.out] at HO2
              clear hok HDO HDD HO10
              go_wp2
              go_roundg (row.length - (f + 1))
              case measure => have := HLF.out; omega
              case rel => exact ⟨f + 1, HLF.out, Nat.le_refl _, by rw [HKF.out], HO2, HA2⟩
          · obtain rfl : f = row.length := by omega
            have HO2 := HO
            rw [HBE.out] at HO2
            have HV2 := Aside0.mk (show mvOkD (M.take (q + 1)) = true by have h := HA.out; rw [List.take_length] at h; rw [HTV.out, HV.out, h]; rfl)
            clear hf hgg2 hltf HA HO
            go_wp2
            go_roundg (M.length - (q + 1))
            case measure => have := HLT.out; omega
            case rel => exact ⟨q + 1, HLT.out, Nat.le_refl _, by rw [HKQ.out], HO2, HV2⟩
      · obtain rfl : q = M.length := by omega
        rw [List.take_length] at HV
        have HP := Aside0.mk (show dualR rk st M = (0, rk, st, M.map rowD) by rw [HPR.out, if_pos HV.out])
        have kb0 : wr.cell? ⟨b5, 0, none⟩ = some (.slice A9 rk.length c9) := (blk_cell (HO.out).bx 0).trans rfl
        have kb1 : wr.cell? ⟨b5, 1, none⟩ = some (.int .i64 st) := (blk_cell (HO.out).bx 1).trans rfl
        have kb2 : wr.cell? ⟨b5, 2, none⟩ = some (.slice A10 M.length c10) := (blk_cell (HO.out).bx 2).trans rfl
        obtain ⟨⟨k0, k1, k2⟩, f0, f1, f2⟩ := (HO.out).dw.rcells
        have HD3 := Aside0.mk ((HO.out).dw.put (.slice A9 rk.length c9) (.int .i64 st) (.slice A10 M.length c10))
        have HRR := Aside0.mk (Kd.R_mono (R_same (w1 := put3 wr (w.heap.size + 1) (.slice A9 rk.length c9) (.int .i64 st) (.slice A10 M.length c10)) (HO.out).rr (fun k hk _ => put3_heap _ _ _ _ _ k (by omega))) (ok' := fun k => w.heap.size ≤ k) (fun k hk => by omega))
        have HRM := Aside0.mk (Kd.R_mono (R_same (w1 := put3 wr (w.heap.size + 1) (.slice A9 rk.length c9) (.int .i64 st) (.slice A10 M.length c10)) ((HO.out).rows.done) (fun k hk _ => put3_heap _ _ _ _ _ k (by have h1 : w.heap.size + 2 ≤ k := hk; omega))) (ok' := fun k => w.heap.size ≤ k) (fun k hk => by have h1 : w.heap.size + 2 ≤ k := hk; omega))
        rw [outA_all] at HRM
        unfold put3 at HD3 HRR HRM
        clear HO HV hq hgg hlt
        go_wp2
        refine bodyPost_ret (results_row_tmp rfl _ _ (w.heap.size + 1) 25 #[.slice A9 rk.length c9, .int .i64 st, .slice A10 M.length c10] (0, 0) _ rfl (HD3.out).h2 Tryz.underlying25 rfl (by kernel_rfl)) rfl ?_
        rw [HP.out]
        exact ⟨_, _, rfl, HRR.out, HRM.out, (HD3.out).hb⟩
end Go.Proofs.YtbmcigakiibncaaGreatDoor.H
namespace Go.Proofs.YtbmcigakiibncaaGreatDoor.H
open Go.RowKit Go.Proofs.YtbmcigakiibncaaGreatDoorW.PrintWords Go.Proofs.YtbmcigakiibncaaGreatDoorW.PrintLast Go.Proofs.YtbmcigakiibncaaGreatDoorW.PrintMore
set_option linter.unusedVariables false
set_option linter.unusedSimpArgs false
set_option maxHeartbeats 8000000 in
set_option maxRecDepth 100000 in
theorem wide_calls {rk : List Int} {st : Int} {M : Mv} (hv : auB rk st M = true) (A1 : Option Addr) (c1 : Nat) (A2 : Option Addr) (c2 : Nat) (w : World) (hM : Kd.C kA3 w A2 M.length M) :
    Calls Tryz.prog 20 #[.agg #[.slice A1 rk.length c1, .int .i64 st, .slice A2 M.length c2]] w fun E w' => ∃ b, E = .returned (.bool b) ∧ Below w.heap.size w w' := by
  have HM := Aside0.mk hM
  have HOK := Aside0.mk (auOk hv)
  have HGA := Aside0.mk (au_good hv)
  have HMN := Aside0.mk ((auOk hv).nM)
  have HB0 := Aside0.mk (below_alloc (Below.refl w.heap.size w) (.cells #[.slice A1 rk.length c1, .int .i64 st, .slice A2 M.length c2] 25))
  have HX0 := Aside0.mk (blk_new w (.cells #[.slice A1 rk.length c1, .int .i64 st, .slice A2 M.length c2] 25))
  clear hM hv
  go_enter Tryz.func20, Tryz.ntmps20
  go_upto_region 1 with (fail)
  generalize w.alloc (.cells #[.slice A1 rk.length c1, .int .i64 st, .slice A2 M.length c2] 25) = W0 at *
  have k2 : W0.cell? ⟨w.heap.size, 2, none⟩ = some (.slice A2 M.length c2) := (blk_cell HX0.out 2).trans rfl
  go_wp2_with fail
  clear k2
  go_loopg [13] M.length (fun gg v13 wi => ∃ q : Nat, q ≤ M.length ∧ M.length - q ≤ gg ∧ v13 = .int .i64 q ∧ Aside0 (Below w.heap.size w wi))
  case atStart => exact ⟨0, Nat.zero_le _, Nat.le_refl _, rfl, HB0⟩
  case round =>
    clear HB0 HX0
    obtain ⟨q, hq, hgg, rfl, HB⟩ := hrel
    by_cases hlt : q < M.length
    · have hltz : (q : Int) < (M.length : Int) := by omega
      have HLT := Aside0.mk hlt
      obtain ⟨ad, A0, c0, e, hk, hc0, hrow⟩ := at_sl HM.out q hlt
      subst e
      replace hk := pw_cell_below (HB.out) hk
      have HROW := Aside0.mk hrow
      have HRM := Aside0.mk (getD_memY [] hlt)
      have HKQ := Aside0.mk (show wrap64 ((q : Int) + 1) = ((q + 1 : Nat) : Int) by rw [wr_id (by omega) (by have := HMN.out; omega)]; rfl)
      generalize hrw : M.getD q [] = row at *
      have HRL2 := Aside0.mk (show row.length ≤ 24 by rw [(HOK.out).row row HRM.out]; exact (HOK.out).nrk)
      clear hc0 hrow hq hrw hlt
      go_wp2_with fail
      clear hk
      go_loopg [19] row.length (fun gg v19 wi => ∃ f : Nat, f ≤ row.length ∧ row.length - f ≤ gg ∧ v19 = .int .i64 f ∧ Aside0 (Below w.heap.size w wi))
      case atStart => exact ⟨0, Nat.zero_le _, Nat.le_refl _, rfl, HB⟩
      case round =>
        clear HB
        obtain ⟨f, hf, hgg2, rfl, HB⟩ := hrel
        by_cases hltf : f < row.length
        · have hltfz : (f : Int) < (row.length : Int) := by omega
          have HLF := Aside0.mk hltf
          obtain ⟨ad3, A7, c7, e, hk, hc3, halt⟩ := at_sl HROW.out f hltf
          subst e
          replace hk := pw_cell_below (HB.out) hk
          have HAM := Aside0.mk (getD_memY [] hltf)
          have HKF := Aside0.mk (show wrap64 ((f : Int) + 1) = ((f + 1 : Nat) : Int) by rw [wr_id (by omega) (by have := HRL2.out; omega)]; rfl)
          have HGD := Aside0.mk ((HGA.out) row HRM.out _ HAM.out)
          have HSM := Aside0.mk (smallest_calls (CP wr) _ A7 c7 wr (Kd.C_below halt (HB.out)) (by have := (HGD.out).len; omega) (fun x hx => by have := asc_len ((HGD.out).asc x hx); omega) (C_heads_in (Kd.C_below halt (HB.out))))
          clear hc3 halt hf hltf
          generalize row.getD f [] = alts at *
          go_wp2_with fail
          refine (HSM.out).mono ?_
          rintro E W1 ⟨v, hs, rfl, hR, hrel, hb⟩
          obtain ⟨A8, c8, rfl, hl8, hC8⟩ := C_of_heads hR hrel hb
          have HSC := Aside0.mk hC8
          have HB1 := Aside0.mk (below_then (HB.out) (HB.out).size hb)
          have HSX := Aside0.mk (fun x hx => asc_len ((HGD.out).smallest.asc x hx))
          have HSL := Aside0.mk ((HGD.out).smallest.len)
          clear hR hrel hb hl8 hC8 HSM HB hk
          generalize smallest alts = sm at *
          go_wp2_with fail
          go_loopg [26, 7] sm.length (fun gg v26 v7 wi => ∃ (i : Nat) (n : Int), i ≤ sm.length ∧ sm.length - i ≤ gg ∧ v26 = .int .i64 i ∧ v7 = .int .i64 n ∧ Aside0 (0 ≤ n ∧ n ≤ 3000) ∧ Aside0 (Below w.heap.size w wi) ∧ Aside0 (Below W1.heap.size W1 wi))
          case atStart => exact ⟨0, 1, Nat.zero_le _, Nat.le_refl _, rfl, rfl, ⟨by decide⟩, HB1, ⟨Below.refl _ _⟩⟩
          case round =>
            clear HB1
            obtain ⟨i, n, hi, hgg3, rfl, rfl, HN, HB, HBW⟩ := hrel
            by_cases hlti : i < sm.length
            · have hltiz : (i : Int) < (sm.length : Int) := by omega
              have HLI := Aside0.mk hlti
              obtain ⟨ad4, A9, c9, e, hk, hc4, _⟩ := at_sl HSC.out i hlti
              subst e
              replace hk := pw_cell_below HBW.out hk
              have HKI := Aside0.mk (show wrap64 ((i : Int) + 1) = ((i + 1 : Nat) : Int) by rw [wr_id (by omega) (by have := HSL.out; omega)]; rfl)
              have HXL := Aside0.mk (HSX.out _ (getD_memX [] hlti))
              generalize (sm.getD i []).length = m at *
              clear hc4 hi hlti
              go_upto_region 12 with (fail)
              have HPB := Aside0.mk (show 0 ≤ n * max 1 (m : Int) ∧ n * max 1 (m : Int) ≤ 72000 by
                have h1 := (HN.out).1
                have h2 := (HN.out).2
                have h3 := HXL.out
                exact ⟨Int.mul_nonneg h1 (by omega), Int.le_trans (Int.mul_le_mul h2 (show max 1 (m : Int) ≤ 24 by omega) (by omega) (by decide)) (by decide)⟩)
              have HPW := Aside0.mk (show wrap64 (n * max 1 (m : Int)) = n * max 1 (m : Int) from wr_id (by have := (HPB.out).1; omega) (by have := (HPB.out).2; omega))
              rw [HPW.out]
              generalize n * max 1 (m : Int) = p at *
              clear hk
              by_cases hp : 3000 < p
              · go_wp2
                go_ret
                exact ⟨_, rfl, HB.out⟩
              · have HP3 := Aside0.mk (show 0 ≤ p ∧ p ≤ 3000 from ⟨(HPB.out).1, by omega⟩)
                go_wp2
                go_roundg (sm.length - (i + 1))
                case measure => have := HLI.out; omega
                case rel => exact ⟨i + 1, p, HLI.out, Nat.le_refl _, by rw [HKI.out], rfl, HP3, HB, HBW⟩
            · obtain rfl : i = sm.length := by omega
              clear hi hgg3 hlti
              go_wp2
              go_roundg (row.length - (f + 1))
              case measure => have := HLF.out; omega
              case rel => exact ⟨f + 1, HLF.out, Nat.le_refl _, by rw [HKF.out], HB⟩
        · obtain rfl : f = row.length := by omega
          clear hf hgg2 hltf
          go_wp2
          go_roundg (M.length - (q + 1))
          case measure => have := HLT.out; omega
          case rel => exact ⟨q + 1, HLT.out, Nat.le_refl _, by rw [HKQ.out], HB⟩
    · obtain rfl : q = M.length := by omega
      clear hq hgg hlt
      go_wp2
      go_ret
      exact ⟨_, rfl, HB.out⟩
end Go.Proofs.YtbmcigakiibncaaGreatDoor.H
namespace Go.Proofs.YtbmcigakiibncaaGreatDoor.H
open Go.RowKit Go.Proofs.YtbmcigakiibncaaGreatDoorW.PrintWords Go.Proofs.YtbmcigakiibncaaGreatDoorW.PrintLast Go.Proofs.YtbmcigakiibncaaGreatDoorW.PrintMore
set_option linter.unusedVariables false
set_option linter.unusedSimpArgs false
set_option maxHeartbeats 4000000 in
set_option maxRecDepth 100000 in
theorem isL_calls (rk : List Int) (M : Mv) (st : Int) (e : Int) (A1 : Option Addr) (c1 : Nat) (A2 : Option Addr) (c2 : Nat) (B1 : Option Addr) (d1 : Nat) (B2 : Option Addr) (d2 : Nat) (w : World)
    (hr : Kd.C (Kd.int .i64) w A1 rk.length rk) (hc1 : rk.length ≤ c1) (hM : Kd.C kA3 w A2 M.length M) (hc2 : M.length ≤ c2)
    (hr' : Kd.C (Kd.int .i64) w B1 rk.length rk) (hd1 : rk.length ≤ d1) (hM' : Kd.C kA3 w B2 M.length M) (hd2 : M.length ≤ d2)
    (h0 : e = 0 → auB rk st M = true) (h1 : e ≠ 0 → rk = [] ∧ st = 0 ∧ M = []) :
    Calls Tryz.prog 23 #[.agg #[.slice A1 rk.length c1, .int .i64 st, .slice A2 M.length c2], .int .i64 e, .agg #[.slice B1 rk.length d1, .int .i64 st, .slice B2 M.length d2], .int .i64 e] w fun E w' => E = .returned (.bool true) ∧ Below w.heap.size w w' := by
  have HSA := Aside0.mk fun W (hW : Below w.heap.size w W) => rsame_calls rk M st A1 c1 A2 c2 rk M st B1 d1 B2 d2 W (Kd.C_below hr hW) hc1 (Kd.C_below hM hW) hc2 (Kd.C_below hr' hW) hd1 (Kd.C_below hM' hW) hd2
  have HS := Aside0.mk (TX2.start w (.slice A1 rk.length c1) (.int .i64 st) (.slice A2 M.length c2) (.slice B1 rk.length d1) (.int .i64 st) (.slice B2 M.length d2))
  have H0 := Aside0.mk h0
  have H1 := Aside0.mk h1
  clear hr hc1 hM hc2 hr' hd1 hM' hd2 h0 h1
  go_enter Tryz.func23, Tryz.ntmps23
  go_upto_region 1 with (fail)
  generalize ((w.alloc (.cells #[.slice A1 rk.length c1, .int .i64 st, .slice A2 M.length c2] 25)).alloc (.cells #[.slice B1 rk.length d1, .int .i64 st, .slice B2 M.length d2] 25)) = W1 at *
  obtain ⟨k0, k1, k2⟩ := box3_cells (HS.out).box
  obtain ⟨k3, k4, k5⟩ := box3_cells (HS.out).box'
  by_cases he : e = 0
  · subst he
    rw [sameB_self, (H0.out) rfl] at HSA
    go_wp2_with fail
    refine (HSA.out _ (HS.out).hb).mono ?_
    rintro E W2 ⟨rfl, hb⟩
    have HS2 := Aside0.mk ((HS.out).below hb)
    clear hb HS k0 k1 k2 k3 k4 k5
    go_wp2
    go_ret
    exact ⟨rfl, (HS2.out).hb⟩
  · obtain ⟨rfl, rfl, rfl⟩ := (H1.out) he
    have e1 : (e == 0) = false := beq_eq_false_iff_ne.2 he
    have e2 : (e != 0) = true := bne_iff_ne.2 he
    clear he H0 H1 HSA
    go_wp2
    go_ret
    exact ⟨rfl, (HS.out).hb⟩
end Go.Proofs.YtbmcigakiibncaaGreatDoor.H
namespace Go.Proofs.YtbmcigakiibncaaGreatDoor.H
open Go.RowKit Go.Proofs.YtbmcigakiibncaaGreatDoorW.PrintWords Go.Proofs.YtbmcigakiibncaaGreatDoorW.PrintLast Go.Proofs.YtbmcigakiibncaaGreatDoorW.PrintMore
set_option linter.unusedVariables false
set_option linter.unusedSimpArgs false
theorem rdual_as {rk : List Int} {st : Int} {M : Mv} {e : Int} {rk' : List Int} {st' : Int} {D : Mv} (h : dualR rk st M = (e, rk', st', D)) (A1 : Option Addr) (c1 : Nat) (A2 : Option Addr) (c2 : Nat) (w : World)
    (hr : Kd.C (Kd.int .i64) w A1 rk.length rk) (hc1 : rk.length ≤ c1) (hM : Kd.C kA3 w A2 M.length M) (hc2 : M.length ≤ c2) :
    Calls Tryz.prog 22 #[.agg #[.slice A1 rk.length c1, .int .i64 st, .slice A2 M.length c2]] w fun E w' => ∃ B1 d1 B2 d2, E = .returned (.tuple #[.agg #[.slice B1 rk'.length d1, .int .i64 st', .slice B2 D.length d2], .int .i64 e]) ∧ Kd.C (Kd.int .i64) w' B1 rk'.length rk' ∧ rk'.length ≤ d1 ∧ Kd.C kA3 w' B2 D.length D ∧ D.length ≤ d2 ∧ Below w.heap.size w w' := by
  refine (rdual_calls rk M st A1 c1 A2 c2 w hr hc1 hM hc2).mono ?_
  rintro E w' q
  unfold DualRE at q
  rw [h] at q
  obtain ⟨v1, v2, rfl, h1, h2, h3⟩ := q
  obtain ⟨A3, c3, rfl⟩ := Kd.R_slice h1
  obtain ⟨A4, c4, rfl⟩ := Kd.R_slice h2
  have r1 := Kd.R_reads' h1
  have r2 := Kd.R_reads' h2
  exact ⟨A3, c3, A4, c4, rfl, r1.2.2, r1.2.1, r2.2.2, r2.2.1, h3⟩
theorem dualR_form (rk : List Int) (st : Int) (M : Mv) : ((dualR rk st M).1 = 0 → auB (dualR rk st M).2.1 (dualR rk st M).2.2.1 (dualR rk st M).2.2.2 = true) ∧ ((dualR rk st M).1 ≠ 0 → (dualR rk st M).2.1 = [] ∧ (dualR rk st M).2.2.1 = 0 ∧ (dualR rk st M).2.2.2 = []) := by
  unfold dualR
  cases hv : auB rk st M with
  | false => rw [if_neg (by decide)]; exact ⟨fun h => absurd h (by decide), fun _ => ⟨rfl, rfl, rfl⟩⟩
  | true =>
    rw [if_pos rfl]
    cases hd : mvOkD M with
    | false => rw [if_neg (by decide)]; exact ⟨fun h => absurd h (by decide), fun _ => ⟨rfl, rfl, rfl⟩⟩
    | true => rw [if_pos rfl]; exact ⟨fun _ => auB_dual hv hd, fun h => absurd rfl h⟩
set_option maxHeartbeats 8000000 in
set_option maxRecDepth 100000 in
theorem autoDual_calls (rk : List Int) (M : Mv) (st : Int) (A1 : Option Addr) (c1 : Nat) (A2 : Option Addr) (c2 : Nat) (w : World)
    (hr : Kd.C (Kd.int .i64) w A1 rk.length rk) (hc1 : rk.length ≤ c1) (hM : Kd.C kA3 w A2 M.length M) (hc2 : M.length ≤ c2) (hm : MX w) (ht : TabD w) :
    Calls Tryz.prog 4 #[.agg #[.slice A1 rk.length c1, .int .i64 st, .slice A2 M.length c2]] w fun E w' => E = .returned (.bool true) ∧ Below w.heap.size w w' := by
  obtain ⟨⟨e, rk', st', D⟩, hv⟩ : ∃ v, dualR rk st M = v := ⟨_, rfl⟩
  have hf := dualR_form rk st M
  rw [hv] at hf
  have HF := Aside0.mk hf
  have HI := Aside0.mk fun W (hW : Below w.heap.size w W) => isA_calls rk M st A1 c1 A2 c2 W (Kd.C_below hr hW) hc1 (Kd.C_below hM hW) hc2
  have HWD := Aside0.mk fun (h : auB rk st M = true) W (hW : Below w.heap.size w W) => wide_calls h A1 c1 A2 c2 W (Kd.C_below hM hW)
  have H1 := Aside0.mk fun W (hW : Below w.heap.size w W) => dual_as hv A1 c1 A2 c2 W (Kd.C_below hr hW) hc1 (Kd.C_below hM hW) (ht.below hW)
  have H2 := Aside0.mk fun W (hW : Below w.heap.size w W) => rdual_as hv A1 c1 A2 c2 W (Kd.C_below hr hW) hc1 (Kd.C_below hM hW) hc2
  have HAL := Aside0.mk fun W (hW : Below w.heap.size w W) => alive_calls W (MX.below hm hW) (ht.below hW)
  have HB0 := Aside0.mk (below_alloc (Below.refl w.heap.size w) (.cells #[.slice A1 rk.length c1, .int .i64 st, .slice A2 M.length c2] 25))
  have HX0 := Aside0.mk (blk_new w (.cells #[.slice A1 rk.length c1, .int .i64 st, .slice A2 M.length c2] 25))
  clear hr hc1 hM hc2 hm ht hf hv
  go_enter Tryz.func4, Tryz.ntmps4
  go_upto_region 1 with (fail)
  generalize w.alloc (.cells #[.slice A1 rk.length c1, .int .i64 st, .slice A2 M.length c2] 25) = W0 at *
  go_cut [12] (fun v12 wx => ∃ b, v12 = .bool b ∧ Aside0 (Below w.heap.size w wx) ∧ Aside0 (wx.heap[w.heap.size]? = some (.cells #[.slice A1 rk.length c1, .int .i64 st, .slice A2 M.length c2] 25 (0, 0))))
  case first =>
    obtain ⟨k0, k1, k2⟩ := box3_cells HX0.out
    go_wp2_with fail
    refine (HI.out _ HB0.out).mono ?_
    rintro E W1 ⟨rfl, hb⟩
    have HB1 := Aside0.mk (below_then HB0.out (HB0.out).size hb)
    have HX1 := Aside0.mk (blk_below HX0.out hb)
    clear hb k0 k1 k2 HB0 HX0
    obtain ⟨k0, k1, k2⟩ := box3_cells HX1.out
    cases hau : auB rk st M with
    | false =>
      clear hau
      go_wp2
      go_meet
      exact ⟨false, rfl, HB1, HX1⟩
    | true =>
      have HW1 := Aside0.mk (HWD.out hau _ HB1.out)
      clear hau
      go_wp2_with fail
      refine (HW1.out).mono ?_
      rintro E W2 ⟨b, rfl, hb⟩
      have HB2 := Aside0.mk (below_then HB1.out (HB1.out).size hb)
      have HX2 := Aside0.mk (blk_below HX1.out hb)
      clear hb k0 k1 k2 HB1 HX1 HW1
      go_wp2
      go_meet
      exact ⟨b, rfl, HB2, HX2⟩
  case rest =>
  obtain ⟨b, rfl, HB, HX⟩ := hcut
  clear HB0 HX0 HI HWD
  cases b with
  | true =>
    go_wp2_with fail
    refine (HAL.out _ HB.out).mono ?_
    rintro E W3 ⟨rfl, hb⟩
    have HB3 := Aside0.mk (below_then HB.out (HB.out).size hb)
    clear hb
    go_wp2
    go_ret
    exact ⟨rfl, HB3.out⟩
  | false =>
  obtain ⟨k0, k1, k2⟩ := box3_cells HX.out
  go_wp2_with fail
  refine (H1.out _ HB.out).mono ?_
  rintro E W1 ⟨B1, d1, B2, d2, rfl, hr1, hd1, hM1, hd2, hb⟩
  have ha := below_alloc (Below.refl W1.heap.size W1) (.cells #[.slice B1 rk'.length d1, .int .i64 st', .slice B2 D.length d2] 25)
  have hb2 := below_then hb hb.size ha
  have HB2 := Aside0.mk (below_then HB.out (HB.out).size hb2)
  have HX2 := Aside0.mk (blk_below HX.out hb2)
  have HY2 := Aside0.mk (blk_new W1 (.cells #[.slice B1 rk'.length d1, .int .i64 st', .slice B2 D.length d2] 25))
  have HR2 := Aside0.mk (Kd.C_below hr1 ha)
  have HM2 := Aside0.mk (Kd.C_below hM1 ha)
  have HD1 := Aside0.mk hd1
  have HD2 := Aside0.mk hd2
  clear ha hb hb2 hr1 hd1 hM1 hd2 H1 HB HX k0 k1 k2
  go_upto_region 4 with (fail)
  generalize W1.alloc (.cells #[.slice B1 rk'.length d1, .int .i64 st', .slice B2 D.length d2] 25) = W2 at *
  generalize W1.heap.size = b1 at *
  obtain ⟨k0, k1, k2⟩ := box3_cells HX2.out
  go_wp2_with fail
  refine (H2.out _ HB2.out).mono ?_
  rintro E W3 ⟨E1, e1, E2, e2, rfl, hr3, he1, hM3, he2, hb⟩
  have ha := below_alloc (Below.refl W3.heap.size W3) (.cells #[.slice E1 rk'.length e1, .int .i64 st', .slice E2 D.length e2] 25)
  have hb4 := below_then hb hb.size ha
  have HB4 := Aside0.mk (below_then HB2.out (HB2.out).size hb4)
  have HY4 := Aside0.mk (blk_below HY2.out hb4)
  have HZ4 := Aside0.mk (blk_new W3 (.cells #[.slice E1 rk'.length e1, .int .i64 st', .slice E2 D.length e2] 25))
  have HIS := Aside0.mk (isL_calls rk' D st' e B1 d1 B2 d2 E1 e1 E2 e2 _ (Kd.C_below HR2.out hb4) HD1.out (Kd.C_below HM2.out hb4) HD2.out (Kd.C_below hr3 ha) he1 (Kd.C_below hM3 ha) he2 (HF.out).1 (HF.out).2)
  clear ha hb hb4 hr3 he1 hM3 he2 H2 HX2 HY2 HR2 HM2 HD1 HD2 k0 k1 k2
  go_upto_region 5 with (fail)
  generalize W3.alloc (.cells #[.slice E1 rk'.length e1, .int .i64 st', .slice E2 D.length e2] 25) = W4 at *
  generalize W3.heap.size = b3 at *
  obtain ⟨k0, k1, k2⟩ := box3_cells HY4.out
  obtain ⟨k3, k4, k5⟩ := box3_cells HZ4.out
  go_wp2_with fail
  refine (HIS.out).mono ?_
  rintro E W5 ⟨rfl, hb⟩
  have HB5 := Aside0.mk (below_then HB4.out (HB4.out).size hb)
  clear hb k0 k1 k2 k3 k4 k5
  go_wp2_with fail
  refine (HAL.out _ HB5.out).mono ?_
  rintro E W6 ⟨rfl, hb⟩
  have HB6 := Aside0.mk (below_then HB5.out (HB5.out).size hb)
  clear hb
  go_wp2
  go_ret
  exact ⟨rfl, HB6.out⟩
end Go.Proofs.YtbmcigakiibncaaGreatDoor.H
namespace Go.Proofs.YtbmcigakiibncaaGreatDoor.H
open Go.ChangeShapes Go.WideShapes Go.ChangeAt Go.RowKit Go.Deep Go.Proofs.YtbmcigakiibncaaGreatDoorW.PrintWords Go.Proofs.YtbmcigakiibncaaGreatDoorW.PrintLast Go.Proofs.YtbmcigakiibncaaGreatDoorW.PrintMore
open Go.Proofs.YtbmcigakiibncaaGreatDoor.Q (S28 k28 S83 k83)
set_option linter.unusedVariables false
set_option maxRecDepth 100000
def Opens {α : Type} (P : Program) (t : TypeId) (d : Kd α) (W : α → Prop) : Prop :=
  ∀ {H : Type} (enc : TypeId × Value → H) (w : World) (base : Nat) (held : Bool) (fuel : Nat) (cs : List Value) (x : DataW H × List MemPlace),
    DataW.trod enc P w base (fun _ => true) held fuel t cs = some x → ∃ a : α, d.K w a cs ∧ W a
theorem opens_int {P : Program} {t : TypeId} {k : IntKind} (ht : P.underlying t = some (.int k)) : Opens P t (Kd.int k) (fun a => (Lit.int k a).wf = true) := by
  intro H enc w base held fuel cs x h
  obtain ⟨n, rfl, _, hw⟩ := DataW.trod_int ht h
  exact ⟨n, rfl, hw⟩
theorem choose_list {α : Type} {p : Nat → α → Prop} {n : Nat} (h : ∀ i, i < n → ∃ y, p i y) : ∃ xs : List α, xs.length = n ∧ ∀ i y, xs[i]? = some y → p i y := by
  induction n with
  | zero => exact ⟨[], rfl, fun i y h => by simp at h⟩
  | succ n ih =>
    obtain ⟨xs, h1, h2⟩ := ih (fun i hi => h i (by omega))
    obtain ⟨y, hy⟩ := h n (by omega)
    refine ⟨xs ++ [y], by simp [h1], fun i z hz => ?_⟩
    rcases Nat.lt_or_ge i xs.length with hi | hi
    · rw [List.getElem?_append_left hi] at hz
      exact h2 i z hz
    · rw [List.getElem?_append_right hi] at hz
      have h3 : i - xs.length = 0 := by
        rcases Nat.eq_zero_or_pos (i - xs.length) with h | h
        · exact h
        · rw [List.getElem?_eq_none (by simp; omega)] at hz; cases hz
      rw [h3] at hz
      obtain rfl : y = z := by simpa using hz
      rw [show i = n from by omega]
      exact hy
theorem opens_slice {α : Type} {P : Program} {t e : TypeId} {d : Kd α} {W : α → Prop} (ht : P.underlying t = some (.slice e)) (hsz : P.cellsOf e = d.sz) (ho : Opens P e d W) : Opens P t (Kd.slice e d) (fun xs => ∀ x ∈ xs, W x) := by
  intro H enc w base held fuel cs x h
  rcases open_slice ht h with ⟨rfl, _⟩ | ⟨a, len, cap, m, n, D, Pl, rfl, _, hl, hm, hmm, _, hx⟩
  · exact ⟨[], ⟨none, 0, rfl, Nat.le_refl _, rfl, by simp, fun h0 => absurd h0 (by simp)⟩, by simp⟩
  · have hmm' : m = cap := by simpa using hmm
    have each : ∀ i, i < len → ∃ y : α, ∃ cs', w.cells? base (a.add (i * P.cellsOf e)) (P.cellsOf e) = some cs' ∧ d.K w y cs' ∧ W y := by
      intro i hi
      obtain ⟨cs', h1, h2⟩ := hx i (by omega)
      obtain ⟨y, hy, hw⟩ := ho enc w base held n cs' _ h2
      exact ⟨y, cs', h1, hy, hw⟩
    obtain ⟨xs, hxl, hxs⟩ := choose_list each
    refine ⟨xs, ⟨some a, cap, by rw [hxl], by omega, rfl, ?_, fun _ => ⟨a, rfl, fun j p hj => ?_⟩⟩, fun y hy => ?_⟩
    · have : maxLen = 9223372036854775807 := rfl
      omega
    · obtain ⟨cs', h1, h2, _⟩ := hxs j p hj
      obtain ⟨_, hlen, hcell⟩ := World.cells?_some h1
      refine ⟨cs', d.K_len h2, h2, fun i u hu => ?_⟩
      have hi : i < cs'.length := (List.getElem?_eq_some_iff.1 hu).1
      have h3 := hcell i (by omega)
      rw [Go.Deep.add_add, hsz] at h3
      rw [h3]; exact hu
    · obtain ⟨j, hj, rfl⟩ := List.getElem_of_mem hy
      obtain ⟨_, _, _, h3⟩ := hxs j _ (List.getElem?_eq_getElem hj)
      exact h3
theorem open_row {α H : Type} {enc : TypeId × Value → H} {P : Program} {t e : TypeId} {d : Kd α} {W : α → Prop} {w : World} {base fuel : Nat} {held : Bool} {v : Value} {x : DataW H × List MemPlace} (ht : P.underlying t = some (.slice e)) (hsz : P.cellsOf e = d.sz) (ho : Opens P e d W)
    (h : DataW.trod enc P w base (fun _ => true) held fuel t [v] = some x) : ∃ A c xs, v = .slice A xs.length c ∧ xs.length ≤ c ∧ d.C w A xs.length xs ∧ ∀ y ∈ xs, W y := by
  obtain ⟨xs, ⟨A, c, hv, hc, hC⟩, hW⟩ := opens_slice ht hsz ho enc w base held fuel [v] x h
  exact ⟨A, c, xs, by simpa using hv, hc, hC, hW⟩
theorem opens_need : Opens Tryz.prog 83 k83 (fun _ => True) := by
  intro H enc w base held fuel cs x h
  obtain ⟨y0, y1, n, rfl, hl, h0, h1⟩ := trod_struct2 Tryz.underlying83 h
  have o0 : (Tryz.prog.cellsOf 3) = 1 := by kernel_rfl
  have o2 : (Tryz.prog.cellsOf 83) = 2 := by kernel_rfl
  rw [o2] at hl
  match cs, hl with
  | [c0, c1], _ =>
    simp only [o0] at h0 h1
    obtain ⟨s, e0, _, _⟩ := DataW.trod_int Tryz.underlying3 h0
    obtain ⟨t, e1, _, _⟩ := DataW.trod_int Tryz.underlying3 h1
    obtain rfl : c0 = .int .i64 s := by simpa using e0
    obtain rfl : c1 = .int .i64 t := by simpa using e1
    exact ⟨⟨s, t⟩, Q.k83_mk w ⟨s, t⟩, trivial⟩
theorem opens_moves : Opens Tryz.prog 23 (Kd.slice 65 kA3) (fun _ => True) := by
  intro H enc w base held fuel cs x h
  obtain ⟨a, h1, _⟩ := opens_slice (e := 65) Tryz.underlying23 (by kernel_rfl) (opens_slice (e := 66) Tryz.underlying65 (by kernel_rfl) (opens_slice (e := 69) Tryz.underlying66 (by kernel_rfl) (opens_slice (e := 83) Tryz.underlying69 (by kernel_rfl) opens_need))) enc w base held fuel cs x h
  exact ⟨a, h1, trivial⟩
theorem open_kids {H : Type} {enc : TypeId × Value → H} {w : World} {base fuel : Nat} {held : Bool} {cs : List Value} {x : DataW H × List MemPlace} (h : DataW.trod enc Tryz.prog w base (fun _ => true) held fuel 26 cs = some x)
    (each : ∀ (fuel : Nat) (cs : List Value) (y : DataW H × List MemPlace), SizeOf.sizeOf y.1 < SizeOf.sizeOf x.1 → DataW.trod enc Tryz.prog w base (fun _ => true) held fuel 28 cs = some y → ∃ t : S28, k28.K w t cs) :
    ∃ (A : Option Addr) (c : Nat) (l : List S28), cs = [.slice A l.length c] ∧ l.length ≤ c ∧ k28.C w A l.length l := by
  rcases open_slice Tryz.underlying26 h with ⟨rfl, _⟩ | ⟨a, len, cap, m, n, D, Pl, rfl, _, hl, hm, hmm, hxe, hx⟩
  · exact ⟨none, 0, [], rfl, Nat.le_refl _, rfl, by simp, fun h0 => absurd h0 (by simp)⟩
  · have hmm' : m = cap := by simpa using hmm
    have hel : ∀ i, i < len → ∃ t : S28, ∃ cs', w.cells? base (a.add (i * Tryz.prog.cellsOf 28)) (Tryz.prog.cellsOf 28) = some cs' ∧ k28.K w t cs' := by
      intro i hi
      obtain ⟨cs', h1, h2⟩ := hx i (by omega)
      have hlt : SizeOf.sizeOf (D i) < SizeOf.sizeOf x.1 := by
        rw [hxe]
        have hmem : D i ∈ (List.range len).map D := List.mem_map.2 ⟨i, List.mem_range.2 hi, rfl⟩
        have := List.sizeOf_lt_of_mem hmem
        simp only [DataW.slice.sizeOf_spec]
        omega
      obtain ⟨t, ht⟩ := each n cs' _ hlt h2
      exact ⟨t, cs', h1, ht⟩
    obtain ⟨xs, hxl, hxs⟩ := choose_list hel
    have c28 : Tryz.prog.cellsOf 28 = 2 := by kernel_rfl
    refine ⟨some a, cap, xs, by rw [hxl], by omega, rfl, ?_, fun _ => ⟨a, rfl, fun j p hj => ?_⟩⟩
    · have : maxLen = 9223372036854775807 := rfl
      omega
    · obtain ⟨cs', h1, h2⟩ := hxs j p hj
      obtain ⟨_, hlen, hcell⟩ := World.cells?_some h1
      refine ⟨cs', k28.K_len h2, h2, fun i u hu => ?_⟩
      have hi : i < cs'.length := (List.getElem?_eq_some_iff.1 hu).1
      have h3 := hcell i (by omega)
      rw [Go.Deep.add_add, c28] at h3
      rw [show k28.sz = 2 from rfl, h3]; exact hu
theorem open_tree {H : Type} {enc : TypeId × Value → H} {w : World} {base : Nat} {held : Bool} (N : Nat) : ∀ (fuel : Nat) (cs : List Value) (x : DataW H × List MemPlace), SizeOf.sizeOf x.1 ≤ N → DataW.trod enc Tryz.prog w base (fun _ => true) held fuel 28 cs = some x → ∃ t : S28, k28.K w t cs := by
  induction N with
  | zero =>
    intro fuel cs x hN
    have : 0 < SizeOf.sizeOf x.1 := by cases x.1 <;> simp <;> omega
    omega
  | succ N ih =>
    intro fuel cs x hN h
    obtain ⟨y0, y1, n, rfl, hl, h0, h1⟩ := trod_struct2 Tryz.underlying28 h
    have o0 : (Tryz.prog.cellsOf 3) = 1 := by kernel_rfl
    have o1 : (Tryz.prog.cellsOf 26) = 1 := by kernel_rfl
    have o2 : (Tryz.prog.cellsOf 28) = 2 := by kernel_rfl
    rw [o2] at hl
    match cs, hl with
    | [c0, c1], _ =>
      simp only [o0, o1] at h0 h1
      obtain ⟨s, e0, _, _⟩ := DataW.trod_int Tryz.underlying3 h0
      obtain ⟨A, c, l, e1, hlc, hC⟩ := open_kids h1 (fun fuel cs y hy hh => ih fuel cs y (by simp only [DataW.agg.sizeOf_spec, List.cons.sizeOf_spec, List.nil.sizeOf_spec] at hN; omega) hh)
      obtain rfl : c0 = .int .i64 s := by simpa using e0
      obtain rfl : c1 = .slice A l.length c := by simpa using e1
      exact ⟨⟨s, l⟩, Q.k28_mk w ⟨s, l⟩ hlc hC⟩
theorem arg_tree {H : Type} {enc : TypeId × Value → H} {w : World} {base : Nat} {held : Bool} {v : Value} {d : DataW H} {p : List MemPlace} (hv : Value.okWide Tryz.prog w .any base 28 v) (h : DataW.Trod enc Tryz.prog w 0 (fun _ => true) held 28 v d p) :
    ∃ (t : S28) (A : Option Addr) (c : Nat), v = .agg #[.int .i64 t.f0, .slice A t.f1.length c] ∧ t.f1.length ≤ c ∧ k28.C w A t.f1.length t.f1 := by
  obtain ⟨x3, y3, _, _, n3, rfl, _, _, a3, b3⟩ := Go.Joins.open_agg2 Tryz.underlying28 (by kernel_rfl) (by kernel_rfl) hv h
  obtain ⟨s3, he3, _, we3⟩ := DataW.trod_int Tryz.underlying3 a3
  obtain rfl : x3 = .int .i64 s3 := by simpa using he3
  obtain ⟨A3, cc3, l3, hy3, hl3, hC3⟩ := open_kids b3 (fun fuel cs y hy hh => open_tree _ fuel cs y (Nat.le_refl _) hh)
  obtain rfl : y3 = .slice A3 l3.length cc3 := by simpa using hy3
  exact ⟨⟨s3, l3⟩, A3, cc3, rfl, hl3, hC3⟩
theorem arg_auto {H : Type} {enc : TypeId × Value → H} {w : World} {base : Nat} {held : Bool} {v : Value} {d : DataW H} {p : List MemPlace} (hv : Value.okWide Tryz.prog w .any base 25 v) (h : DataW.Trod enc Tryz.prog w 0 (fun _ => true) held 25 v d p) :
    ∃ (rk : List Int) (st : Int) (M : Mv) (A1 : Option Addr) (c1 : Nat) (A2 : Option Addr) (c2 : Nat), v = .agg #[.slice A1 rk.length c1, .int .i64 st, .slice A2 M.length c2] ∧ rk.length ≤ c1 ∧ Kd.C (Kd.int .i64) w A1 rk.length rk ∧ M.length ≤ c2 ∧ Kd.C kA3 w A2 M.length M ∧ (Lit.int .i64 st).wf = true ∧ ∀ x ∈ rk, (Lit.int .i64 x).wf = true := by
  obtain ⟨x0, y0, z0, _, _, _, n0, rfl, _, _, a0, b0, c0⟩ := Go.Joins.open_agg3 Tryz.underlying25 (by kernel_rfl) (by kernel_rfl) hv h
  obtain ⟨A1, c1, rk, rfl, hl1, hC1, hw1⟩ := open_row (d := Kd.int .i64) Tryz.underlying22 (by kernel_rfl) (opens_int Tryz.underlying3) a0
  obtain ⟨st, hs, _, ws⟩ := DataW.trod_int Tryz.underlying3 b0
  obtain rfl : y0 = .int .i64 st := by simpa using hs
  obtain ⟨M, ⟨A2, c2, e2, hl2, hC2⟩, _⟩ := opens_moves enc _ _ _ _ _ _ c0
  obtain rfl : z0 = .slice A2 M.length c2 := by simpa using e2
  exact ⟨rk, st, M, A1, c1, A2, c2, rfl, hl1, hC1, hl2, hC2, ws, hw1⟩
theorem own : ownKnob Tryz.prog.godebug = none := by kernel_rfl
theorem laidOut : laidOutB Tryz.prog = true := by kernel_rfl
theorem g64 : Tryz.prog.globalNamed "math/bits.deBruijn64tab" = some 1 := by kernel_rfl
theorem t64 : (Tryz.prog.globals[1]?).map (·.type) = some 156 := by kernel_rfl
abbrev laid7 : List (String × DataW Unit) := [("math/bits.deBruijn32tab", Rows.laid_math_bits_deBruijn32tab), ("math/bits.deBruijn64tab", Rows.laid_math_bits_deBruijn64tab), ("internal/strconv.uint64pow10", Rows.laid_internal_strconv_uint64pow10), ("unicode/utf8.acceptRanges", Rows.laid_unicode_utf8_acceptRanges), ("strconv.ErrRange", Rows.laid_strconv_ErrRange), ("strconv.ErrSyntax", Rows.laid_strconv_ErrSyntax), ("unicode/utf8.first", Rows.laid_unicode_utf8_first)]
theorem mx_of_shaped {w : World} (h : w.ShapedOpen Tryz.prog) : MX w :=
  Go.Proofs.cell_of_shapedOpen_int (g := 2) (t := 3) (zero := #[.int .i64 0]) h (of_decide_eq_true (by kernel_rfl)) (by kernel_rfl) rfl (by kernel_rfl) (by kernel_rfl) Tryz.underlying3
theorem tabD_of_laid {W : World} (h : laidMetH Tryz.prog laid7 W) : TabD W := by
  rw [MakeChecks.laidMetH_plain _ _ _ (by kernel_rfl)] at h
  obtain ⟨ps, ⟨g0, t0, cs0, f0, p0, q0, hg0, ht0, hv0, hd0, ⟨g1, t1, cs1, f1, p1, q1, hg1, ht1, hv1, hd1, _, _⟩, _⟩, _, _⟩ := h
  obtain rfl := Option.some.inj (g64.symm.trans hg1)
  obtain rfl := Option.some.inj (t64.symm.trans ht1)
  obtain ⟨xs, m1, rfl, hx1, hlen, hn, hel⟩ := DataW.trod_array Tryz.underlying156 hd1
  have c5 : Tryz.prog.cellsOf 5 = 1 := by kernel_rfl
  simp only [Prod.mk.injEq] at hx1
  have hxe := hx1.1
  intro i hi
  have h1 := hel i hi
  rw [c5, Nat.mul_one] at h1
  cases hxi : xs[i]? with
  | none =>
    have := List.getElem?_eq_none_iff.1 hxi
    omega
  | some x =>
    rw [hxi] at h1
    obtain ⟨n, e1, e2, _⟩ := DataW.trod_int Tryz.underlying5 h1
    have hc := World.var?_cell hg1 hv1 i
    rw [hc, ← Array.getElem?_toList]
    have h3 := congrArg (·[0]?) e1
    have h4 : cs1.toList[i]? = some (.int .u8 n) := by simpa [List.getElem?_take, List.getElem?_drop] using h3
    rw [h4]
    have h5 : (xs.map (·.1))[i]? = some (.lit (.int .u8 n)) := by rw [List.getElem?_map, hxi]; simp [e2]
    have h6 : (xs.map (·.1)) = Lib.deBruijn64tab.map fun (n : Nat) => (.lit (.int .u8 (n : Int)) : DataW Unit) := by
      first | exact (DataW.agg.inj hxe).symm | exact DataW.agg.inj hxe
    rw [h6, List.getElem?_map] at h5
    have h7 : i < Lib.deBruijn64tab.length := by rw [show Lib.deBruijn64tab.length = 64 from rfl]; exact hi
    rw [List.getElem?_eq_getElem h7] at h5
    have h8 : ((Lib.deBruijn64tab[i] : Nat) : Int) = n := by simpa using h5
    rw [List.getD, List.getElem?_eq_getElem h7]
    simp [h8]
theorem handed_and_shaped {H : Type} {enc : TypeId × Value → H} {a : Assume} {C : Checked} {os : Os} {f : FuncId} {fn : Func} {s : ChangeSpec} {conds : List PathCond} {apart fresh handsOn again : Bool} {X : World → Array Value → Prop}
    (hX : ∀ (w w' : World) (args : Array Value), w.heap = w'.heap → X w args → X w' args)
    (own : ownKnob C.prog.godebug = none) (started : os.Started) (noInit : C.prog.inits.idxOf? f = none) (hfn : C.prog.funcs[f]? = some fn)
    (witness : ∃ (w : World) (tape : Tape) (i : Input), w.os = os ∧ (w.forCall tape i).Shaped C.prog ∧ i.vars = [] ∧ Input.okWide C.prog (w.forCall tape i) .any w.heap.size f i ∧
      ((s.pre enc C.prog fn conds apart (w.forCall tape i).memory i.args ∧ X (w.forCall tape i).memory i.args) ∧ sizedMet enc C.prog fn (OpenSpec.ofChange s) apart (w.forCall tape i).memory i.args) ∧ a.holds C.prog (lone (Frame.enter C.prog f i.args .normal) [] (w.forCall tape i)))
    (contract : ∀ (W : World) (base : Nat) (args : Array Value) (ds gs : List (DataW H)) (before : List MemPlace),
      (∀ (j : Nat) t v, fn.params[j]? = some t → args[j]? = some v → Value.okWide C.prog W .any base t v) →
      DataW.Whole enc C.prog fn.params.toList s.vars apart W args.toList ds gs before →
      conds.all (PathCond.test C.prog ⟨fn.params.toList, ds, s.plain.varTypes C.prog, gs⟩) = true →
      X W args → W.ShapedOpen C.prog →
      Calls C.prog f args W fun e W' => ∃ v, e = .returned v ∧ s.post enc C.prog fn apart fresh handsOn again W args v W') :
    ReturnsInHanded a C os f .any (fun w args => (s.pre enc C.prog fn conds apart w args ∧ X w args) ∧ sizedMet enc C.prog fn (OpenSpec.ofChange s) apart w args) (s.post enc C.prog fn apart fresh handsOn again) := by
  refine returnsInHanded_of_calls own started noInit witness ?_
  intro w tape i _ hsh _ hok hpre hholds
  obtain ⟨_, _, _, fn', hfn', _, _, _, _, hval⟩ := hok
  have e : fn' = fn := Option.some.inj (hfn'.symm.trans hfn)
  subst e
  obtain ⟨⟨⟨ds, gs, before, hw, hc⟩, hx⟩, hz⟩ := hpre
  have hw' := DataW.Whole.of_heap (w' := w.forCall tape i) (by rfl) hw
  refine (contract (w.forCall tape i) w.heap.size i.args ds gs before hval hw' hc (hX _ _ _ (by rfl) hx) hsh).mono fun e W' ⟨v, he, hp⟩ => ?_
  subst he
  exact ChangeSpec.post_blind hp
end Go.Proofs.YtbmcigakiibncaaGreatDoor.H
