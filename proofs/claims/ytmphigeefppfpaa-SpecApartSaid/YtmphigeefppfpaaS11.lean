/- What specApart_calls needs, out of my texts, by a program (slim.py). -/
import Derived.Test.YtmphigeefppfpaaProg
import Derived.Below
import Derived.Deep.Draws
import Derived.Deep.AppendLies
import Derived.Maps.AppendAt
import Derived.OwnWalk
import Derived.Laws.BytesArg
import Derived.Laws.MakeOwn
import Derived.Laws.OwnMore
import Derived.Deep.OwnRows
import Derived.Tactics
import Derived.Lib.ConvBytes
import Derived.Laws.Slices
import Derived.WalkKit
import Derived.KernelRfl
import Derived.RowKit3
import Derived.Deep.LoopGhost
import Derived.Deep.QuietTactic
import Derived.BigQuiet
import Derived.WideLaws
import Derived.Deep.DeepCutAuto
import Derived.Deep.CutBlock
import Derived.Deep.RegionHeld3
import Derived.Laws.Rows
import Derived.Lib.AppendStr
import Derived.ArgAppend
import Derived.Laws.IdiomCopy
import Derived.OrdersHeld
import Derived.Laws.BitsLemmas
import Derived.RowKit
import Derived.Test.YtmphigeefppfpaaWWords
import Derived.Test.YtmphigeefppfpaaWLast
import Derived.Test.YtmphigeefppfpaaWTab
import Derived.Test.YtmphigeefppfpaaWFour
import Derived.Test.YtmphigeefppfpaaWQPut
import Derived.Test.YtmphigeefppfpaaWApart
import Derived.Test.YtmphigeefppfpaaWArr
import Derived.Test.YtmphigeefppfpaaWZeros
import Derived.Test.YtmphigeefppfpaaWFoot
import Derived.Test.YtmphigeefppfpaaWKept
import Derived.Test.YtmphigeefppfpaaWShare
import Derived.Test.YtmphigeefppfpaaWN
import Derived.Test.YtmphigeefppfpaaWFootNe
import Derived.Test.YtmphigeefppfpaaWAt
import Derived.Test.YtmphigeefppfpaaWEqStruct
import Derived.Test.YtmphigeefppfpaaWRepsOne
import Derived.Test.YtmphigeefppfpaaWInv
import Derived.Test.YtmphigeefppfpaaWInvWords
import Derived.Test.YtmphigeefppfpaaWGuard
import Derived.Test.YtmphigeefppfpaaWNEv
import Derived.Test.YtmphigeefppfpaaWMore
import Derived.Maps.OwnSet
import Derived.DeepKeys4
import Derived.Laws.ResultCell
import Derived.RegionTactic
import Derived.ChangeAlike
import Derived.ChangeKeysEq
import Derived.Laws.StructEq
import Derived.Deep.RegionLaw
import Derived.Test.YtmphigeefppfpaaS10
namespace Go.Proofs.Ytmphigeefppfpaa.H
open Go.RowKit Go.Proofs.YtmphigeefppfpaaW.PrintWords Go.Proofs.YtmphigeefppfpaaW.PrintLast Go.Proofs.YtmphigeefppfpaaW.PrintMore
set_option linter.unusedVariables false
theorem ents_snoc (L : List PT) (t : PT) : ents (L ++ [t]) = ents L ++ [(t.p, (t.par, t.ev))] := by simp [ents]
theorem mput_ents {L : List PT} {t : PT} (h : t.p ∉ L.map (·.p)) : mput t.p (t.par, t.ev) (ents L) = ents (L ++ [t]) := by
  rw [mput_new (by rw [ents_keys]; exact h), ents_snoc]
theorem ne_boxes {a b m k : Nat} (ha : a < m) (hb : b < m) (hk : m ≤ k) (x y : Int × Int) : ∀ p ∈ [(a, x), (b, y)], p.1 ≠ k := fun p hp => by
  simp only [List.mem_cons, List.not_mem_nil, or_false] at hp
  rcases hp with rfl | rfl
  · show a ≠ k; omega
  · show b ≠ k; omega
set_option maxHeartbeats 8000000 in
set_option maxRecDepth 100000 in
theorem sapart_calls (ea sa : Int) (A : Option Addr) (ca : Nat) (la : List (List Int)) (eb sb : Int) (B : Option Addr) (cb : Nat) (lb : List (List Int)) (w : World)
    (hra : Kd.C (Kd.slice 3 (Kd.int .i64)) w A la.length la) (hca : la.length ≤ ca) (hrb : Kd.C (Kd.slice 3 (Kd.int .i64)) w B lb.length lb) (hcb : lb.length ≤ cb) :
    Calls Try.prog 23 #[.agg #[.int .i64 ea, .int .i64 sa, .slice A la.length ca], .agg #[.int .i64 eb, .int .i64 sb, .slice B lb.length cb]] w (ApEnd (apVal ea sa la eb sb lb) (pairVal ea sa la eb sb lb) w) := by
  have H1 := Aside0.mk fun W (hW : Below w.heap.size w W) => pair_calls ea sa A ca la eb sb B cb lb W (Kd.C_below hra hW) (Kd.C_below hrb hW)
  have HA := Aside0.mk hra
  have HB := Aside0.mk hrb
  clear hra hrb
  by_cases hp : pairVal ea sa la eb sb lb = 0
  · obtain ⟨hsa, hsb, rfl⟩ := pairVal_zero hp
    have HV := Aside0.mk (show apVal ea sa la ea sb lb = apAns la lb ea.toNat (sa, sb) (pairs la lb) from if_pos hp)
    rw [hp] at H1 ⊢
    obtain ⟨_, _, he0, he1, _, hla⟩ := spec_table hsa
    obtain ⟨_, _, _, _, _, hlb⟩ := spec_table hsb
    obtain ⟨n, rfl⟩ : ∃ n : Nat, ea = (n : Int) := ⟨ea.toNat, by omega⟩
    rw [Int.toNat_natCast] at HV
    have hn : n ≤ 16 := by omega
    have hple := pairs_le hsa hsb
    have HLE := Aside0.mk (apTo_le hsa hsb (spec_domB hsa hsb))
    have HDM := Aside0.mk (apTo_dom hsa hsb (spec_domB hsa hsb))
    have HSTP := Aside0.mk fun (p : Int × Int) (e : Nat) (hp : domQ la lb p) (he : (e : Int) < n) => stp_dom hsa hsb hp he
    have HWF := Aside0.mk (show ∀ p : Int × Int, domQ la lb p → domP p from fun p hp => ⟨wf_small' hp.1.1 (by have := hp.1.2; omega), wf_small' hp.2.1 (by have := hp.2.2; omega)⟩)
    have HD0 := Aside0.mk (spec_domB hsa hsb)
    have HRD := Aside0.mk fun (x : PT) (l : List PT) (hl : ∀ t ∈ l, domB la lb t.p) (hx : domB la lb x.p) (e : Nat) (he : (e : Int) ≤ n) => apRow_dom hsa hsb hl hx e he
    have H2 := Aside0.mk fun W (hW : Below w.heap.size w W) (q e : Int) (hq : domN la q) (h0 : 0 ≤ e) (h1 : e < (n : Int)) => next_calls hsa hq h0 h1 A ca W (Kd.C_below HA.out hW) hca
    have H3 := Aside0.mk fun W (hW : Below w.heap.size w W) (q e : Int) (hq : domN lb q) (h0 : 0 ≤ e) (h1 : e < (n : Int)) => next_calls hsb hq h0 h1 B cb W (Kd.C_below HB.out hW) hcb
    generalize hN : pairs la lb = N at *
    generalize hAV : apVal n sa la n sb lb = av at *
    clear hp hsa hsb hla hlb hN he0 he1 hAV
    have hmm := @run_makeMap Try.prog
    go_enter Try.func23, Try.ntmps23
    go_upto_region 1 with (fail)
    have HS := two3_begin w #[.int .i64 n, .int .i64 sa, .slice A la.length ca] #[.int .i64 n, .int .i64 sb, .slice B lb.length cb]
    generalize ((w.alloc (.cells #[.int .i64 n, .int .i64 sa, .slice A la.length ca] 24)).alloc (.cells #[.int .i64 n, .int .i64 sb, .slice B lb.length cb] 24)) = w0 at *
    obtain ⟨⟨hc0, hc1, hc2⟩, hd0, hd1, hd2⟩ := two3_held HS
    go_wp2_with fail
    refine (H1.out _ (HS.1).out).mono ?_
    rintro E w1 ⟨rfl, hb⟩
    have HS1 := two3_keep hb HS
    clear hb HS hc0 hc1 hc2 hd0 hd1 hd2 H1
    obtain ⟨⟨hc0, hc1, hc2⟩, hd0, hd1, hd2⟩ := two3_held HS1
    go_upto_region 5 with (fail)
    have hB2 := below_alloc (Below.refl w1.heap.size w1) (.cells #[.int .i64 sa, .int .i64 sb] 56)
    have HS2 := two3_keep hB2 HS1
    have HX2 := Aside0.mk (blk_new w1 (.cells #[.int .i64 sa, .int .i64 sb] 56))
    have HU2 := Aside0.mk ((HS1.1).out).size
    clear HS1 hB2 hc0 hc1 hc2 hd0 hd1 hd2
    generalize (w1.alloc (.cells #[.int .i64 sa, .int .i64 sb] 56)) = w2 at *
    generalize w1.heap.size = sk at *
    obtain ⟨wm, hrun, HM0, hgm⟩ := MapIs.put (mapIs_new w2 encP encY domP) keyPair Try.underlying59 (HWF.out _ (HD0.out).q) ((0, 0), 0)
    have hrun' : (Instr.mapUpdate 59 (.map (some w2.heap.size)) (.agg #[.int .i64 sa, .int .i64 sb]) (.agg #[.int .i64 0, .int .i64 0, .int .i64 0])).run Try.prog (w2.alloc (.map #[] 0)) = .ok () wm := hrun
    clear hrun
    have hBm := below_alloc (Below.refl w2.heap.size w2) (.map #[] 0)
    have HS3 := two3_keep hBm HS2
    have hX3 := blk_below HX2.out hBm
    have hne : ∀ {b : Nat} {cs : Array Value} {T : TypeId}, (w2.alloc (.map #[] 0)).heap[b]? = some (.cells cs T (0, 0)) → some b ≠ some w2.heap.size := fun hb e => by injection e with e; exact MapIs.ne_row (mapIs_new w2 encP encY domP) hb e
    have HX4 := Aside0.mk (blk_grown hX3 hgm (hne hX3))
    have HA4 := Aside0.mk (blk_grown (HS3.2.1).out hgm (hne (HS3.2.1).out))
    have HB4 := Aside0.mk (blk_grown (HS3.2.2).out hgm (hne (HS3.2.2).out))
    have HW4 := Aside0.mk (pw_below_grown (HS3.1).out _ ((HS3.1).out).size hgm (fun k hk => by cases hk; exact ((HS2.1).out).size))
    have HMB := Aside0.mk ((HS2.1).out).size
    have HM0 := Aside0.mk HM0
    have hm0 : (w2.alloc (.map #[] 0)).cell? ⟨sk, 0, none⟩ = some (.int .i64 sa) := (blk_cell hX3 0).trans rfl
    have hm1 : (w2.alloc (.map #[] 0)).cell? ⟨sk, 1, none⟩ = some (.int .i64 sb) := (blk_cell hX3 1).trans rfl
    have hx0 : wm.cell? ⟨sk, 0, none⟩ = some (.int .i64 sa) := (blk_cell HX4.out 0).trans rfl
    have hx1 : wm.cell? ⟨sk, 1, none⟩ = some (.int .i64 sb) := (blk_cell HX4.out 1).trans rfl
    clear HX2 hX3 hBm hgm hne HS2 HS3
    go_upto_region 7 with (fail)
    generalize w2.heap.size = MB at *
    have HSA := Aside0.mk (SA.cons (SA.mk (w := w) (W := wm.alloc (.cells #[.int .i64 sa, .int .i64 sb] 56)) (va := #[.int .i64 n, .int .i64 sa, .slice A la.length ca]) (vb := #[.int .i64 n, .int .i64 sb, .slice B lb.length cb]) (MB := MB) (bs := []) (qv := .slice (some ⟨wm.heap.size, 0, none⟩) 1 1) (Sq := fun k => k = wm.heap.size) (q := [(sa, sb)]) (es := [((sa, sb), ((0, 0), 0))])
      (below_alloc HW4.out _) (blk_alloc HA4.out _) (blk_alloc HB4.out _) (HM0.out.below (below_alloc (Below.refl _ _) _)) HMB.out (Kd.Q_of_R (R_new1P wm (sa, sb) w.heap.size (HW4.out).size)) (fun p hp => absurd hp List.not_mem_nil)) (b := sk) (x := (sa, sb)) (blk_alloc HX4.out _) (fun h => by have := (Array.getElem?_eq_some_iff.1 HX4.out).1; omega) HU2.out)
    clear HW4 HA4 HB4 HM0 HX4 hm0 hm1 hx0 hx1 hrun' HMB HU2
    generalize (wm.alloc (.cells #[.int .i64 sa, .int .i64 sb] 56)) = w4 at *
    generalize (fun k => k = wm.heap.size) = Sq0 at *
    generalize wm.heap.size = qb at *
    go_loopg [10] N (fun gg v10 wi => ∃ (i : Nat) (Sq : Nat → Prop), i ≤ N ∧ N - i ≤ gg ∧ Aside0 (apAns la lb n (sa, sb) i = none) ∧
      Aside0 (SA w wi #[.int .i64 n, .int .i64 sa, .slice A la.length ca] #[.int .i64 n, .int .i64 sb, .slice B lb.length cb] MB [(sk, (sa, sb))] v10 Sq (((apTo la lb n (sa, sb) i).drop i).map (·.p)) (ents (apTo la lb n (sa, sb) i))))
    case atStart => exact ⟨0, _, by omega, by omega, ⟨rfl⟩, HSA⟩
    case round =>
      clear HSA
      obtain ⟨i, Sq, him, hgg, HNO, HSA⟩ := hrel
      have hsz := HLE.out i
      by_cases hlt : i < (apTo la lb n (sa, sb) i).length
      · have HXI := Aside0.mk (List.getElem?_eq_getElem hlt)
        have HST := Aside0.mk (apTo_step HXI.out)
        have HFD := Aside0.mk fun (wd : List Int) (h : rowAns la lb (apTo la lb n (sa, sb) i)[i] n = some wd) => apAns_found HNO.out HXI.out h
        have HNX := Aside0.mk fun (h : rowAns la lb (apTo la lb n (sa, sb) i)[i] n = none) => apAns_next HNO.out HXI.out h
        have HXD := Aside0.mk (HDM.out i _ (List.getElem_mem hlt))
        have HLD := Aside0.mk (HDM.out i)
        have HQM := Aside0.mk (HLE.out (i + 1))
        have HXM := Aside0.mk (List.getElem_mem hlt)
        have HCH := Aside0.mk (apTo_chain (la := la) (lb := lb) (n := n) (s := (sa, sb)) i)
        have HWDL := Aside0.mk (apTo_wd (la := la) (lb := lb) (n := n) (s := (sa, sb)) i)
        rw [HST.out] at HQM
        have him2 : i + 1 ≤ N := by omega
        rw [List.drop_eq_getElem_cons hlt, List.map_cons] at HSA
        generalize (apTo la lb n (sa, sb) i)[i] = x at *
        generalize apTo la lb n (sa, sb) i = l at *
        obtain ⟨qg, qo, qc, rfl, hq0, hq1⟩ := kP_head (HSA.out).hQ
        obtain ⟨A1, c1, hcut, hq2⟩ := kP_tail (HSA.out).hQ
        have HS1 := Aside0.mk ((HSA.out).tail hq2)
        clear hq2 HSA
        generalize hql : (List.map (fun x => x.p) (List.drop (i + 1) l)).length = ql at *
        have HQL := Aside0.mk hql
        clear hql
        have hgt : (0 : Int) < (ql : Int) + 1 := by omega
        go_upto_region 10 with (fail)
        obtain ⟨Sq1, HS2, HSS, HSQ⟩ := (HS1.out).bound2
        clear HSQ
        have HS3 := Aside0.mk (((HS2.out).below (below_alloc (Below.refl wr.heap.size wr) (.cells #[.int .i64 x.p.1, .int .i64 x.p.2] 56))).cons (b := wr.heap.size) (x := x.p) (blk_new wr _) (fun h => Nat.lt_irrefl _ (HSS.out _ h)) ((HS2.out).hb).size)
        have HXS := Aside0.mk (show sk ≠ wr.heap.size from fun e => by have := (Array.getElem?_eq_some_iff.1 ((HS2.out).hbs _ List.mem_cons_self).1).1; omega)
        clear HS1 HS2 HSS hcut hq0 hq1 hgt
        generalize (wr.alloc (.cells #[.int .i64 x.p.1, .int .i64 x.p.2] 56)) = w5 at *
        generalize wr.heap.size = xb at *
        obtain ⟨hc0, hc1, hc2⟩ := box_cells (HS3.out).ha
        go_wp2
        clear hc0 hc1 hc2
        go_loopg [10, 44] n (fun gk v10 v44 wi => ∃ (e : Nat) (Sq : Nat → Prop), e ≤ n ∧ n - e ≤ gk ∧ v44 = .int .i64 e ∧ Aside0 (rowAns la lb x e = none) ∧
          Aside0 (SA w wi #[.int .i64 n, .int .i64 sa, .slice A la.length ca] #[.int .i64 n, .int .i64 sb, .slice B lb.length cb] MB [(xb, x.p), (sk, (sa, sb))] v10 Sq (((apRow la lb x l e).drop (i + 1)).map (·.p)) (ents (apRow la lb x l e))))
        case atStart => exact ⟨0, _, by omega, by omega, rfl, ⟨rfl⟩, HS3⟩
        case round =>
          clear HS3 Sq1
          obtain ⟨e, Sq, hen, hgk, rfl, HRN, HSA⟩ := hrel
          by_cases hle : e < n
          · have hlez : (e : Int) < (n : Int) := by omega
            have HRS := Aside0.mk (show apRow la lb x l (e + 1) = if oneB (stp la lb x.p e) || seenB (stp la lb x.p e) (apRow la lb x l e) then apRow la lb x l e else apRow la lb x l e ++ [⟨stp la lb x.p e, x.wd ++ [(e : Int)], x.p, e⟩] from rfl)
            have hql2 := Nat.le_trans (apRow_mono (la := la) (lb := lb) (x := x) (l := l) (e := e) (e' := n) (by omega)) HQM.out
            have HF1 := Aside0.mk fun h => rowAns_found HRN.out (h : oneB (stp la lb x.p e) = true) (n - (e + 1))
            rw [show e + 1 + (n - (e + 1)) = n from by omega] at HF1
            have HN1 := Aside0.mk fun h => rowAns_next HRN.out (h : oneB (stp la lb x.p e) = false)
            have HYD := Aside0.mk (HSTP.out x.p e (HXD.out).q hlez)
            have HC2 := Aside0.mk (apRow_chain (la := la) (lb := lb) (e := e) HCH.out HXM.out)
            have HQD := Aside0.mk (HRD.out x l HLD.out HXD.out e (by omega))
            have hix : i + 1 ≤ (apRow la lb x l e).length := by
              obtain ⟨r, hr⟩ := apRow_pre (la := la) (lb := lb) (x := x) (l := l) (e := e)
              rw [hr, List.length_append]; omega
            have HXM2 := Aside0.mk (show x ∈ apRow la lb x l e from by
              obtain ⟨r, hr⟩ := apRow_pre (la := la) (lb := lb) (x := x) (l := l) (e := e)
              rw [hr]; exact List.mem_append_left _ HXM.out)
            have HWD2 := Aside0.mk (apRow_wd (la := la) (lb := lb) (e := e) (m := i + 1) (fun t ht => Nat.le_succ_of_le (HWDL.out t ht)) (Nat.lt_succ_of_le (HWDL.out x HXM.out)))
            generalize apRow la lb x l e = qe at *
            obtain ⟨A10, c10, e10, _⟩ := Kd.Q_slice (HSA.out).hQ
            subst e10
            have hq3 : (List.map (fun x => x.p) (List.drop (i + 1) qe)).length ≤ N := by simp; omega
            generalize hqn : (List.map (fun x => x.p) (List.drop (i + 1) qe)).length = qn at *
            have HQN2 := Aside0.mk hqn
            clear hqn
            have H2c := Aside0.mk fun W (hW : Below w.heap.size w W) => H2.out W hW x.p.1 e (HXD.out).q.1 (by omega) (by omega)
            have H3c := Aside0.mk fun W (hW : Below w.heap.size w W) => H3.out W hW x.p.2 e (HXD.out).q.2 (by omega) (by omega)
            unfold stp at HRS HF1 HN1 HYD
            generalize nextB la x.p.1 e = y1 at *
            generalize nextB lb x.p.2 e = y2 at *
            go_upto_region 13 with (fail)
            go_cut [13] from 47 to 57 (fun s13 wx => ∃ (yb : Nat) (Sq : Nat → Prop), s13 = .pointer (some ⟨yb, 0, none⟩) ∧ Aside0 (yb ≠ xb ∧ yb ≠ sk) ∧
              Aside0 (SA w wx #[.int .i64 n, .int .i64 sa, .slice A la.length ca] #[.int .i64 n, .int .i64 sb, .slice B lb.length cb] MB [(yb, (y1, y2)), (xb, x.p), (sk, (sa, sb))] (.slice A10 qn c10) Sq ((qe.drop (i + 1)).map (·.p)) (ents qe)))
            case first =>
              obtain ⟨Sq1, HB0, HSS, HSQ⟩ := (HSA.out).bound2
              have HBS := Aside0.mk ((HB0.out).hb).size
              have hltx : xb < wr.heap.size := (Array.getElem?_eq_some_iff.1 ((HB0.out).hbs _ List.mem_cons_self).1).1
              have hltk : sk < wr.heap.size := (Array.getElem?_eq_some_iff.1 ((HB0.out).hbs (sk, (sa, sb)) (by simp)).1).1
              clear HSA HSQ
              generalize hw0 : wr = w0 at *
              have HP0 := (HB0.out).below (W1 := w0.drew) (below_drew (Below.refl _ _))
              go_region_held3 (fun w' => ((w'.cell? ⟨w.heap.size, 0, none⟩ = some (.int .i64 n) ∧ w'.cell? ⟨w.heap.size, 1, none⟩ = some (.int .i64 sa) ∧ w'.cell? ⟨w.heap.size, 2, none⟩ = some (.slice A la.length ca)) ∧ (w'.cell? ⟨w.heap.size + 1, 0, none⟩ = some (.int .i64 n) ∧ w'.cell? ⟨w.heap.size + 1, 1, none⟩ = some (.int .i64 sb) ∧ w'.cell? ⟨w.heap.size + 1, 2, none⟩ = some (.slice B lb.length cb))) ∧
                  (w'.cell? ⟨xb, 0, none⟩ = some (.int .i64 x.p.1) ∧ w'.cell? ⟨xb, 1, none⟩ = some (.int .i64 x.p.2)))
                (first | exact HP0.held List.mem_cons_self | exact HP1.held List.mem_cons_self | exact HP2.held List.mem_cons_self | exact SA.held (HP2.put2 HN2 HU HT HZ (y1, y2)) mem1 | exact SA.held (SA.below HB0.out (below_drew (below_alloc (Below.refl w0.heap.size w0) (.cells #[.int .i64 0, .int .i64 0] 56)))) List.mem_cons_self | exact SA.held (SA.below HP1 (below_alloc (Below.refl _ _) _)) List.mem_cons_self | exact SA.held (SA.below HP2 (below_alloc (Below.refl _ _) _)) List.mem_cons_self | fail)
                (first
                  | (go_at_call 44; (first | (with_reducible refine (H2c.out _ HP0.hb).mono ?_) | (have HN : ((w0.alloc (.cells #[.int .i64 0, .int .i64 0] 56)).drew).heap[w0.heap.size]? = some (.cells #[.int .i64 0, .int .i64 0] 56 (0, 0)) := blk_drew (blk_new w0 _); have HT : ¬ Sq1 w0.heap.size := (fun h => Nat.lt_irrefl _ (HSS.out _ h)); have HU := HBS.out; have HZ := ne_boxes hltx hltk (Nat.le_refl w0.heap.size) x.p (sa, sb); have HP0 := (HB0.out).below (below_drew (below_alloc (Below.refl w0.heap.size w0) (.cells #[.int .i64 0, .int .i64 0] 56))); with_reducible refine (H2c.out _ HP0.hb).mono ?_)); rintro E w4 ⟨rfl, hb⟩; have HV : w0.heap.size ≤ w4.heap.size := (Nat.le_trans (by simp) hb.size); have HP1 := HP0.below hb; (try have HN1 := blk_below HN hb); clear hb; (try clear HN); clear HP0)
                  | (go_at_call 44; (first | (with_reducible refine (H3c.out _ HP1.hb).mono ?_) | (have HN1 : (w4.alloc (.cells #[.int .i64 0, .int .i64 0] 56)).heap[w4.heap.size]? = some (.cells #[.int .i64 0, .int .i64 0] 56 (0, 0)) := blk_new w4 _; have HT : ¬ Sq1 w4.heap.size := (fun h => Nat.not_lt.2 HV (HSS.out _ h)); have HU := Nat.le_trans HBS.out HV; have HZ := ne_boxes hltx hltk HV x.p (sa, sb); have HP1 := HP1.below (below_alloc (Below.refl _ _) (.cells #[.int .i64 0, .int .i64 0] 56)); with_reducible refine (H3c.out _ HP1.hb).mono ?_)); rintro E w5 ⟨rfl, hb⟩; have HV2 : w0.heap.size ≤ w5.heap.size := (Nat.le_trans HV (Nat.le_trans (by simp) hb.size)); have HP2 := HP1.below hb; (try have HN2 := blk_below HN1 hb); clear hb; (try clear HN1); clear HP1; (try (have hk0 := (blk_cell HN2 0).trans rfl; have hk1 := (blk_cell HN2 1).trans rfl; have hf0 := blk_frozen HN2 0; have hf1 := blk_frozen HN2 1)))
                  | fail)
              · go_wp2_with fail
                go_meet
                exact ⟨_, Sq1, rfl, ⟨by omega, by omega⟩, ⟨((HP2.below (below_alloc (Below.refl _ _) _)).cons (b := w5.heap.size) (x := (y1, y2)) (blk_new w5 _) (fun h => Nat.not_lt.2 HV2 (HSS.out _ h)) (Nat.le_trans HBS.out HV2))⟩⟩
              · go_wp2_with fail
                go_meet
                exact ⟨_, Sq1, rfl, ⟨by omega, by omega⟩, ⟨HP2.put2 HN2 HU HT HZ (y1, y2)⟩⟩
              · go_wp2_with fail
                go_meet
                exact ⟨_, Sq1, rfl, ⟨by omega, by omega⟩, ⟨HP2.put2 HN2 HU HT HZ (y1, y2)⟩⟩
            case rest =>
              clear HSA H2c H3c Sq
              obtain ⟨yb, Sq, rfl, HYN, HSA⟩ := hcut
              generalize wc = w6 at *
              have hlk := MapIs.look (HSA.out).hM keyPair Try.underlying59 (zero58 w6) (HWF.out _ HYD.out) true
              obtain ⟨⟨hy0, hy1⟩, _⟩ := (HSA.out).cell (b := yb) (x := (y1, y2)) List.mem_cons_self
              have hyb := HYD.out
              have hyr : -1 ≤ y1 ∧ -1 ≤ y2 := ⟨hyb.1.1, hyb.2.1⟩
              cases hone : oneB (y1, y2) with
              | true =>
                have hnk := one_new HQD.out hone
                rw [mget_none.2 (by rw [ents_keys]; exact hnk)] at hlk
                have hl : (Instr.lookup 59 (.map (some MB)) (.agg #[.int .i64 y1, .int .i64 y2]) true).run Try.prog w6 = .ok (.tuple #[.agg #[.int .i64 0, .int .i64 0, .int .i64 0], .bool false]) w6 := hlk
                have hff : (y1 == -1 && y2 == -1) = false := by
                  cases h : (y1 == -1 && y2 == -1) with
                  | false => rfl
                  | true =>
                    rw [Bool.and_eq_true, beq_iff_eq, beq_iff_eq] at h
                    rw [h.1, h.2] at hone
                    exact absurd hone (by decide)
                have heq : ∀ W, (Op.equalIn 10000 56 (.agg #[.int .i64 y1, .int .i64 y2]) (.agg #[.int .i64 (-1), .int .i64 (-1)])).run Try.prog W = .ok false W := fun W => by rw [eq56, hff]
                have HNK := Aside0.mk hnk
                have HW := Aside0.mk (show av = some (x.wd ++ [(e : Int)]) from by
                  rw [HV.out]
                  have := HFD.out _ (HF1.out hone) (N - (i + 1))
                  rwa [show i + 1 + (N - (i + 1)) = N from by omega] at this)
                have HONE := Aside0.mk hone
                have HYR := Aside0.mk hyr
                clear hlk hff hnk hone HN1 HF1 HFD HNX HRS hyb hyr
                go_upto_region 15 with (fail)
                have HS7 := Aside0.mk ((HSA.out).below (below_alloc (Below.refl w6.heap.size w6) (.cells #[.int .i64 0, .int .i64 0, .int .i64 0] 58)))
                clear HSA hl hy0 hy1
                generalize (w6.alloc (.cells #[.int .i64 0, .int .i64 0, .int .i64 0] 58)) = w7 at *
                obtain ⟨⟨hy0, hy1⟩, _⟩ := (HS7.out).cell (b := yb) (x := (y1, y2)) List.mem_cons_self
                obtain ⟨⟨hx0, hx1⟩, _⟩ := (HS7.out).cell (b := xb) (x := x.p) mem1
                obtain ⟨w8, hput, HM8, hg8⟩ := MapIs.put (HS7.out).hM keyPair Try.underlying59 (HWF.out _ HYD.out) (x.p, (e : Int))
                have hput' : (Instr.mapUpdate 59 (.map (some MB)) (.agg #[.int .i64 y1, .int .i64 y2]) (.agg #[.int .i64 x.p.1, .int .i64 x.p.2, .int .i64 (e : Int)])).run Try.prog w7 = .ok () w8 := hput
                have HML := Aside0.mk (mput_ents (L := qe) (t := ⟨(y1, y2), x.wd ++ [(e : Int)], x.p, e⟩) HNK.out)
                rw [HML.out] at HM8
                have HS8 := Aside0.mk ((HS7.out).map HM8 hg8)
                have HCL := Aside0.mk ((HC2.out).snoc2 HXM2.out (y1, y2) e HNK.out)
                clear hput HM8 hg8 HML
                go_upto_region 17 with (fail)
                have HWL := Aside0.mk (show ∀ t ∈ qe ++ [⟨(y1, y2), x.wd ++ [(e : Int)], x.p, e⟩], t.wd.length ≤ i + 1 from fun t ht => by
                  rcases List.mem_append.1 ht with ht | ht
                  · exact HWD2.out t ht
                  · rw [List.mem_singleton.1 ht]
                    have := HWDL.out x HXM.out
                    simp; exact this)
                have HDL := Aside0.mk (show ∀ t ∈ qe ++ [⟨(y1, y2), x.wd ++ [(e : Int)], x.p, e⟩], domP t.p from fun t ht => by
                  rcases List.mem_append.1 ht with ht | ht
                  · exact HWF.out _ (HQD.out t ht).q
                  · rw [List.mem_singleton.1 ht]
                    exact HWF.out _ HYD.out)
                have HTM := Aside0.mk (show (⟨(y1, y2), x.wd ++ [(e : Int)], x.p, e⟩ : PT) ∈ qe ++ [⟨(y1, y2), x.wd ++ [(e : Int)], x.p, e⟩] from List.mem_append_right _ List.mem_cons_self)
                have HT0 := Aside0.mk (show (⟨(y1, y2), x.wd ++ [(e : Int)], x.p, e⟩ : PT).p = (y1, y2) ∧ (⟨(y1, y2), x.wd ++ [(e : Int)], x.p, e⟩ : PT).wd = x.wd ++ [(e : Int)] from ⟨rfl, rfl⟩)
                generalize (⟨(y1, y2), x.wd ++ [(e : Int)], x.p, e⟩ : PT) = T0 at *
                clear hx0 hx1 hy0 hy1 hput' HS7 HNK HSTP HRD H2 H3 HLE HDM HNO HXI HST HXD HLD HQM HXM HCH HWDL HRN HC2 HQD HXM2 HWD2 HA HB HV
                obtain ⟨⟨hy0, hy1⟩, _⟩ := (HS8.out).cell (b := yb) (x := (y1, y2)) List.mem_cons_self
                go_cut [82] from 75 to 82 (fun s82 wx => s82 = .bool true ∧ w8 = wx)
                case first =>
                  have hone := HONE.out
                  by_cases h1 : y1 < 0
                  · have k1 : decide (y1 < 0) = true := by simpa using h1
                    go_wp2
                    go_meet
                    exact ⟨rfl, rfl⟩
                  · have k1 : decide (y1 < 0) = false := by simpa using h1
                    have k2 : decide (y2 < 0) = true := by
                      unfold oneB at hone
                      rw [k1] at hone
                      cases h2 : decide (y2 < 0) with
                      | true => rfl
                      | false => rw [h2] at hone; exact absurd hone (by decide)
                    clear hone h1
                    go_wp2
                    go_meet
                    exact ⟨rfl, rfl⟩
                case rest =>
                  obtain ⟨rfl, rfl⟩ := hcut
                  clear hy0 hy1
                  rw [← (HT0.out).1] at HS8
                  have HTW := Aside0.mk (show T0.wd ++ ([] : List Int).reverse = x.wd ++ [(e : Int)] from by rw [(HT0.out).2]; simp)
                  have hT0 : T0.wd.length ≤ i + 1 := HWL.out _ HTM.out
                  have hTL : (x.wd ++ [(e : Int)]).length ≤ i + 1 := by rw [← (HT0.out).2]; exact hT0
                  generalize x.wd ++ [(e : Int)] = total at *
                  generalize qe ++ [T0] = L at *
                  clear HT0
                  go_wp2
                  go_loopg [16] (i + 1) (fun gg3 v16 wi => ∃ (t : PT) (out : List Int) (S : Nat → Prop), t.wd.length ≤ gg3 ∧ t ∈ L ∧ Aside0 (t.wd ++ out.reverse = total) ∧ Aside0 (Kd.R (Kd.int .i64) 3 wi w.heap.size S v16 out) ∧
                    Aside0 (SA w wi #[.int .i64 n, .int .i64 sa, .slice A la.length ca] #[.int .i64 n, .int .i64 sb, .slice B lb.length cb] MB [(yb, t.p), (xb, x.p), (sk, (sa, sb))] (.slice A10 qn c10) Sq ((qe.drop (i + 1)).map (·.p)) (ents L)))
                  case atStart => exact ⟨T0, [], fun _ => False, hT0, HTM.out, HTW, ⟨Kd.R_nil _ _ _ _ _⟩, HS8⟩
                  case round =>
                    clear HS8 HTW hT0 HTM T0
                    obtain ⟨t, out, S, hgg3, htL, HTT, HR, HSA⟩ := hrel
                    obtain ⟨⟨hy0, hy1⟩, hf0, hf1⟩ := (HSA.out).cell (b := yb) (x := t.p) List.mem_cons_self
                    obtain ⟨⟨hx0, hx1⟩, _⟩ := (HSA.out).cell (b := sk) (x := (sa, sb)) (by simp)
                    obtain ⟨A16, c16, e16⟩ := Kd.R_slice HR.out
                    subst e16
                    have HLT := Aside0.mk (HCL.out.hc t htL)
                    have HMG := Aside0.mk (mget_ents HCL.out.nd htL)
                    have HTD := Aside0.mk (HDL.out t htL)
                    have HRT := Aside0.mk (fun h : t.p = (sa, sb) => nodup_inj (f := PT.p) HCL.out.nd htL HCL.out.hr h)
                    generalize htp : t.p = tp at *
                    obtain ⟨t1, t2⟩ := tp
                    have HTP := Aside0.mk htp
                    clear htp
                    by_cases hst : t1 = sa ∧ t2 = sb
                    · have heq : ∀ W, (Op.equalIn 10000 56 (.agg #[.int .i64 t1, .int .i64 t2]) (.agg #[.int .i64 sa, .int .i64 sb])).run Try.prog W = .ok true W := fun W => by rw [eq56, hst.1, hst.2]; simp
                      have HTE := Aside0.mk (HRT.out (by rw [hst.1, hst.2]))
                      have HOUT := Aside0.mk (show out.reverse = total from by
                        have := HTT.out
                        rw [HTE.out] at this
                        simpa [root] using this)
                      clear hst
                      have hrev := reverse_calls w.heap.size S A16 c16 out wr HR.out
                      unfold RevEnd at hrev
                      have HREV := Aside0.mk hrev
                      clear hrev
                      go_wp2_with fail
                      refine HREV.out.mono ?_
                      rintro E w9 ⟨rfl, hr9, hg9⟩
                      rw [HOUT.out] at hr9
                      have HR9 := Aside0.mk hr9
                      have HL9 := Aside0.mk (show out.length = total.length from by rw [← HOUT.out]; simp)
                      have HB9 := Aside0.mk (pw_below_grown (HSA.out).hb _ ((HSA.out).hb).size hg9 (Kd.R_base HR.out))
                      clear hr9 hg9
                      go_wp2
                      go_ret3
                      rw [HW.out]
                      have hr9 := HR9.out
                      rw [HL9.out] at hr9
                      have hrr := Kd.R_reads' hr9
                      refine ⟨A16, c16, hrr.2.1, ?_, hrr.2.2, HB9.out⟩
                      rw [HL9.out]
                      rfl
                    · have hff : (t1 == sa && t2 == sb) = false := by
                        cases h : (t1 == sa && t2 == sb) with
                        | false => rfl
                        | true =>
                          rw [Bool.and_eq_true, beq_iff_eq, beq_iff_eq] at h
                          exact absurd h hst
                      have heq : ∀ W, (Op.equalIn 10000 56 (.agg #[.int .i64 t1, .int .i64 t2]) (.agg #[.int .i64 sa, .int .i64 sb])).run Try.prog W = .ok false W := fun W => by rw [eq56, hff]
                      have HQE := Aside0.mk (show ∃ q ∈ L, q.p = t.par ∧ t.wd = q.wd ++ [t.ev] from by
                        rcases HLT.out with h | ⟨_, h⟩
                        · exact absurd (by rw [h] at HTP; have := HTP.out; simp only [root, Prod.mk.injEq] at this; exact ⟨this.1.symm, this.2.symm⟩) hst
                        · exact h)
                      clear hff hst HLT HRT
                      obtain ⟨q, hq, hqp, hqw⟩ := HQE.out
                      have HQP := Aside0.mk hqp
                      have hqw2 := hgg3
                      rw [hqw, List.length_append, List.length_singleton] at hqw2
                      have HQT := Aside0.mk (show q.wd ++ (out ++ [t.ev]).reverse = total from by
                        rw [← HTT.out, hqw]; simp)
                      have hol : (out.length + 1) * 8 ≤ 140737488355328 := by
                        have h1 := congrArg List.length HTT.out
                        rw [List.length_append, List.length_reverse] at h1
                        omega
                      clear hqp hqw
                      have hlk := MapIs.look (HSA.out).hM keyPair Try.underlying59 (zero58 wr) HTD.out false
                      rw [HMG.out] at hlk
                      have hl : (Instr.lookup 59 (.map (some MB)) (.agg #[.int .i64 t1, .int .i64 t2]) false).run Try.prog wr = .ok (.agg #[.int .i64 t.par.1, .int .i64 t.par.2, .int .i64 t.ev]) wr := hlk
                      clear hlk
                      have hfd1 := fun W => (field58 t.par.1 t.par.2 t.ev W).1
                      have hfd0 := fun W => (field58 t.par.1 t.par.2 t.ev W).2
                      go_upto_region 21 with ((with_reducible refine gate_builtin (b := .append) (xs := #[.tmp 86, .tmp 91]) rfl ?_); at_builtin; refine Kd.R_append (Kd.int .i64) (w0 := w) w.heap.size rfl (.tmp 86) (.tmp 91) 25 3 (.int .i64 0) 8 rfl Try.underlying25 info3 rfl (by decide) (by omega) (.slice A16 out.length c16) out t.ev [.int .i64 t.ev] (fun k => S k ∨ wr.heap.size ≤ k) (fun _ => False) rfl rfl rfl (fun _ hk => hk.elim) (fun k hk => .inr hk) (Kd.R_mono HR.out (fun _ hk => .inl hk)) (HSA.out).hb ((HSA.out).hb).size hol ?_; intro v9 w9 hr9 hb9 hg9 hat9; have HS9 := Aside0.mk ((HSA.out).row HR.out hg9); have HR9 := Aside0.mk hr9; clear hr9 hb9 hg9 hat9)
                      clear hl hy0 hy1 hf0 hf1 hx0 hx1 HSA HR
                      have hlk := MapIs.look (HS9.out).hM keyPair Try.underlying59 (zero58 w9) HTD.out false
                      rw [HMG.out] at hlk
                      have hl : (Instr.lookup 59 (.map (some MB)) (.agg #[.int .i64 t1, .int .i64 t2]) false).run Try.prog w9 = .ok (.agg #[.int .i64 t.par.1, .int .i64 t.par.2, .int .i64 t.ev]) w9 := hlk
                      clear hlk
                      obtain ⟨⟨hy0, hy1⟩, hf0, hf1⟩ := (HS9.out).cell (b := yb) (x := (t1, t2)) List.mem_cons_self
                      go_wp2
                      go_roundg q.wd.length
                      case measure => omega
                      case rel =>
                        have hbx := (HS9.out).hbs _ List.mem_cons_self
                        have HS10 := ((HS9.out).less (bs1 := [(xb, x.p), (sk, (sa, sb))]) (fun p hp => List.mem_cons_of_mem _ hp)).put2 hbx.1 hbx.2.2 hbx.2.1 (fun p hp => by
                          simp only [List.mem_cons, List.not_mem_nil, or_false] at hp
                          rcases hp with rfl | rfl
                          · exact fun h => (HYN.out).1 h.symm
                          · exact fun h => (HYN.out).2 h.symm) q.p
                        rw [HQP.out] at HS10
                        refine ⟨q, out ++ [t.ev], fun k => S k ∨ wr.heap.size ≤ k, Nat.le_refl _, hq, HQT, ⟨R_offrow HR9.out hbx.1 (by simp [Kd.int, Kd.scalar]) (grown2 w9 yb _ _)⟩, ⟨?_⟩⟩
                        rw [HQP.out]
                        exact HS10
              | false =>
                have HN2 := Aside0.mk (HN1.out hone)
                rw [hone, Bool.false_or] at HRS
                by_cases hneg : y1 < 0
                · have hneg2 : y2 < 0 := by
                    unfold oneB at hone
                    rw [decide_eq_true hneg] at hone
                    cases h2 : decide (y2 < 0) with
                    | true => exact of_decide_eq_true h2
                    | false => rw [h2] at hone; exact absurd hone (by decide)
                  obtain rfl : y1 = -1 := by omega
                  obtain rfl : y2 = -1 := by omega
                  rw [seen_iff.2 (.inl hneg)] at HRS
                  simp only [if_true] at HRS
                  rw [mget_none.2 (by rw [ents_keys]; exact fun hm => by obtain ⟨t, ht, he⟩ := List.mem_map.1 hm; have := (HQD.out t ht).1.1; rw [he] at this; exact absurd this (by decide))] at hlk
                  have hl : (Instr.lookup 59 (.map (some MB)) (.agg #[.int .i64 (-1), .int .i64 (-1)]) true).run Try.prog w6 = .ok (.tuple #[.agg #[.int .i64 0, .int .i64 0, .int .i64 0], .bool false]) w6 := hlk
                  have heq : ∀ W, (Op.equalIn 10000 56 (.agg #[.int .i64 (-1), .int .i64 (-1)]) (.agg #[.int .i64 (-1), .int .i64 (-1)])).run Try.prog W = .ok true W := fun W => by rw [eq56]; rfl
                  clear hlk hone HN1 HF1 HFD hneg hneg2 hyb hyr
                  go_upto_region 15 with (fail)
                  have HS7 := Aside0.mk ((HSA.out).below (below_alloc (Below.refl w6.heap.size w6) (.cells #[.int .i64 0, .int .i64 0, .int .i64 0] 58)))
                  clear HSA hl hy0 hy1
                  generalize (w6.alloc (.cells #[.int .i64 0, .int .i64 0, .int .i64 0] 58)) = w7 at *
                  obtain ⟨⟨hy0, hy1⟩, _⟩ := (HS7.out).cell (b := yb) (x := (-1, -1)) List.mem_cons_self
                  go_wp2
                  go_roundg (n - (e + 1))
                  case measure => omega
                  case rel =>
                    refine ⟨e + 1, Sq, by omega, by omega, by go_num, HN2, ?_⟩
                    rw [HRS.out]
                    exact ⟨(HS7.out).less (fun p hp => List.mem_cons_of_mem _ hp)⟩
                · have hneg2 : ¬ y2 < 0 := by
                    unfold oneB at hone
                    rw [decide_eq_false hneg] at hone
                    exact fun h2 => by rw [decide_eq_true h2] at hone; exact absurd hone (by decide)
                  by_cases hmem : ((y1, y2) : Int × Int) ∈ qe.map (·.p)
                  · rw [seen_iff.2 (.inr hmem)] at HRS
                    simp only [if_true] at HRS
                    obtain ⟨t, ht, he⟩ := List.mem_map.1 hmem
                    have hmg := mget_ents (HC2.out).nd ht
                    rw [show t.p = (y1, y2) from he] at hmg
                    rw [hmg] at hlk
                    have hl : (Instr.lookup 59 (.map (some MB)) (.agg #[.int .i64 y1, .int .i64 y2]) true).run Try.prog w6 = .ok (.tuple #[.agg #[.int .i64 t.par.1, .int .i64 t.par.2, .int .i64 t.ev], .bool true]) w6 := hlk
                    clear hlk hone HN1 HF1 HFD hneg hneg2 hyb hyr hmem hmg he ht
                    go_upto_region 15 with (fail)
                    have HS7 := Aside0.mk ((HSA.out).below (below_alloc (Below.refl w6.heap.size w6) (.cells #[.int .i64 t.par.1, .int .i64 t.par.2, .int .i64 t.ev] 58)))
                    clear HSA hl hy0 hy1
                    generalize (w6.alloc (.cells #[.int .i64 t.par.1, .int .i64 t.par.2, .int .i64 t.ev] 58)) = w7 at *
                    obtain ⟨⟨hy0, hy1⟩, _⟩ := (HS7.out).cell (b := yb) (x := (y1, y2)) List.mem_cons_self
                    go_wp2
                    go_roundg (n - (e + 1))
                    case measure => omega
                    case rel =>
                      refine ⟨e + 1, Sq, by omega, by omega, by go_num, HN2, ?_⟩
                      rw [HRS.out]
                      exact ⟨(HS7.out).less (fun p hp => List.mem_cons_of_mem _ hp)⟩
                  · have hns : seenB (y1, y2) qe = false := by
                      cases h : seenB (y1, y2) qe with
                      | false => rfl
                      | true => exact absurd (seen_iff.1 h) (by rintro (h | h); exact hneg h; exact hmem h)
                    rw [hns] at HRS
                    simp only [Bool.false_eq_true, if_false] at HRS
                    rw [mget_none.2 (by rw [ents_keys]; exact hmem)] at hlk
                    have hl : (Instr.lookup 59 (.map (some MB)) (.agg #[.int .i64 y1, .int .i64 y2]) true).run Try.prog w6 = .ok (.tuple #[.agg #[.int .i64 0, .int .i64 0, .int .i64 0], .bool false]) w6 := hlk
                    have hff : (y1 == -1 && y2 == -1) = false := by
                      rw [beq_eq_false_iff_ne.2 (by omega : y1 ≠ -1)]; rfl
                    have heq : ∀ W, (Op.equalIn 10000 56 (.agg #[.int .i64 y1, .int .i64 y2]) (.agg #[.int .i64 (-1), .int .i64 (-1)])).run Try.prog W = .ok false W := fun W => by rw [eq56, hff]
                    have k1 : decide (y1 < 0) = false := by simpa using hneg
                    have k2 : decide (y2 < 0) = false := by simpa using hneg2
                    have HML := Aside0.mk (mput_ents (L := qe) (t := ⟨(y1, y2), x.wd ++ [(e : Int)], x.p, e⟩) hmem)
                    clear hlk hone HN1 HF1 HFD hneg hneg2 hyb hyr hmem hns hff
                    go_upto_region 15 with (fail)
                    have HS7 := Aside0.mk ((HSA.out).below (below_alloc (Below.refl w6.heap.size w6) (.cells #[.int .i64 0, .int .i64 0, .int .i64 0] 58)))
                    clear HSA hl hy0 hy1
                    generalize (w6.alloc (.cells #[.int .i64 0, .int .i64 0, .int .i64 0] 58)) = w7 at *
                    obtain ⟨⟨hy0, hy1⟩, _⟩ := (HS7.out).cell (b := yb) (x := (y1, y2)) List.mem_cons_self
                    obtain ⟨⟨hx0, hx1⟩, _⟩ := (HS7.out).cell (b := xb) (x := x.p) mem1
                    obtain ⟨w8, hput, HM8, hg8⟩ := MapIs.put (HS7.out).hM keyPair Try.underlying59 (HWF.out _ HYD.out) (x.p, (e : Int))
                    have hput' : (Instr.mapUpdate 59 (.map (some MB)) (.agg #[.int .i64 y1, .int .i64 y2]) (.agg #[.int .i64 x.p.1, .int .i64 x.p.2, .int .i64 (e : Int)])).run Try.prog w7 = .ok () w8 := hput
                    rw [HML.out] at HM8
                    have HS8 := Aside0.mk ((HS7.out).map HM8 hg8)
                    clear hput HM8 hg8 HML
                    go_upto_region 17 with (fail)
                    clear hput' hx0 hx1 hy0 hy1 HS7
                    obtain ⟨⟨hy0, hy1⟩, _⟩ := (HS8.out).cell (b := yb) (x := (y1, y2)) List.mem_cons_self
                    have hlq2 : ((List.map (fun x => x.p) (List.drop (i + 1) qe)).length + 1) * 16 ≤ 140737488355328 := by have := HQN2.out; omega
                    have hvq : Value.slice A10 qn c10 = Value.slice A10 (List.map (fun x => x.p) (List.drop (i + 1) qe)).length c10 := by rw [HQN2.out]
                    have HVQ := Aside0.mk hvq
                    clear hvq
                    go_wp2_with ((with_reducible refine gate_builtin (b := .append) (xs := #[.tmp 100, .tmp 102]) rfl ?_); at_builtin; refine Kd.Q_append kP (w0 := w) w.heap.size rfl (.tmp 100) (.tmp 102) 60 56 (.agg #[.int .i64 0, .int .i64 0]) 16 rfl Try.underlying60 info56 rfl (by decide) (by omega) (.slice A10 qn c10) (List.map (fun x => x.p) (List.drop (i + 1) qe)) (y1, y2) [.int .i64 y1, .int .i64 y2] (fun k => Sq k ∨ w8.heap.size ≤ k) (fun _ => False) rfl rfl ?m1 ?m2 ?m3 ?m4 ?m5 ?m6 ?m7 ?_; (case m1 => exact M_pair _ _ _ (y1, y2)); (case m2 => exact fun _ hk => hk.elim); (case m3 => exact fun k hk => .inr hk); (case m4 => exact Kd.Q_mono (HS8.out).hQ (fun _ hk => .inl hk)); (case m5 => exact (HS8.out).hb); (case m6 => exact ((HS8.out).hb).size); (case m7 => exact hlq2); intro v9 w9 ho9 hb9 hg9 hat9; have HS9 := Aside0.mk ((HS8.out).appQ ho9 hg9); clear ho9 hb9 hg9 hat9 HS8)
                    go_roundg (n - (e + 1))
                    case measure => omega
                    case rel =>
                      refine ⟨e + 1, fun k => Sq k ∨ w8.heap.size ≤ k, by omega, by omega, by go_num, HN2, ?_⟩
                      rw [HRS.out, List.drop_append_of_le_length hix, List.map_append]
                      exact ⟨(HS9.out).less (fun p hp => List.mem_cons_of_mem _ hp)⟩
          · have hlez : ¬ (e : Int) < (n : Int) := by omega
            obtain rfl : e = n := by omega
            have HN3 := Aside0.mk (HNX.out HRN.out)
            go_wp2
            go_roundg (N - (i + 1))
            case measure => omega
            case rel =>
              refine ⟨i + 1, Sq, by omega, by omega, HN3, ?_⟩
              rw [HST.out]
              exact ⟨(HSA.out).less (fun p hp => List.mem_cons_of_mem _ hp)⟩
      · have HW := Aside0.mk (show av = none from by
          rw [HV.out]
          have := apAns_stays HNO.out (List.getElem?_eq_none_iff.2 (by omega)) (N - i)
          rwa [show i + (N - i) = N from by omega] at this)
        rw [List.drop_eq_nil_of_le (by omega), List.map_nil] at HSA
        obtain ⟨A10, c10, e10, _⟩ := Kd.Q_slice (HSA.out).hQ
        rw [List.length_nil] at e10
        subst e10
        generalize apTo la lb n (sa, sb) i = l at *
        go_wp2
        go_ret3
        rw [HW.out]
        exact ⟨none, 0, Nat.le_refl _, rfl, C_nil _, (HSA.out).hb⟩
  · have HW := Aside0.mk (show apVal ea sa la eb sb lb = none from if_neg hp)
    generalize apVal ea sa la eb sb lb = av at *
    generalize pairVal ea sa la eb sb lb = v at *
    have hv : (v == 0) = false := beq_eq_false_iff_ne.2 hp
    have hv2 : (v != 0) = true := bne_iff_ne.2 hp
    clear hp
    go_enter Try.func23, Try.ntmps23
    go_upto_region 1 with (fail)
    have HS := two3_begin w #[.int .i64 ea, .int .i64 sa, .slice A la.length ca] #[.int .i64 eb, .int .i64 sb, .slice B lb.length cb]
    generalize ((w.alloc (.cells #[.int .i64 ea, .int .i64 sa, .slice A la.length ca] 24)).alloc (.cells #[.int .i64 eb, .int .i64 sb, .slice B lb.length cb] 24)) = w0 at *
    obtain ⟨⟨hc0, hc1, hc2⟩, hd0, hd1, hd2⟩ := two3_held HS
    go_wp2_with fail
    refine (H1.out _ (HS.1).out).mono ?_
    rintro E w1 ⟨rfl, hb⟩
    have HS1 := two3_keep hb HS
    clear hb HS hc0 hc1 hc2 hd0 hd1 hd2 H1
    go_wp2
    go_ret3
    rw [HW.out]
    exact ⟨none, 0, Nat.le_refl _, rfl, C_nil _, (HS1.1).out⟩
end Go.Proofs.Ytmphigeefppfpaa.H
namespace Go.Proofs.Ytmphigeefppfpaa.H
open Go.RowKit Go.Proofs.YtmphigeefppfpaaW.PrintWords Go.Proofs.YtmphigeefppfpaaW.PrintLast Go.Proofs.YtmphigeefppfpaaW.PrintMore
set_option linter.unusedVariables false
def SomeBool (w : World) (E : Ending) (w' : World) : Prop := ∃ b : Bool, E = .returned (.bool b) ∧ Below w.heap.size w w'
theorem many_calls (ea sa : Int) (A : Option Addr) (ca : Nat) (la : List (List Int)) (eb sb : Int) (B : Option Addr) (cb : Nat) (lb : List (List Int)) (w : World)
    (hra : Kd.C (Kd.slice 3 (Kd.int .i64)) w A la.length la) (hca : la.length ≤ ca) (hrb : Kd.C (Kd.slice 3 (Kd.int .i64)) w B lb.length lb) (hcb : lb.length ≤ cb) :
    Calls Try.prog 22 #[.agg #[.int .i64 ea, .int .i64 sa, .slice A la.length ca], .agg #[.int .i64 eb, .int .i64 sb, .slice B lb.length cb]] w (SomeBool w) := by
  have h : ∃ b, Ev (fun k => Q.virgationlaw11_many.f k ea sa la eb sb lb) b := by
    unfold Q.virgationlaw11_many.f
    cases h1 : specOk ea sa la with
    | false => exact ⟨_, Ev.bind (is_ev ea sa la (lens_of_C hra)) (by rw [h1]; simp only [Bool.false_eq_true, if_false]; exact Ev.now _)⟩
    | true =>
      cases h2 : specOk eb sb lb with
      | false => exact ⟨_, Ev.bind (is_ev ea sa la (lens_of_C hra)) (by rw [h1]; simp only [if_true]; exact Ev.bind (is_ev eb sb lb (lens_of_C hrb)) (by rw [h2]; simp only [Bool.false_eq_true, if_false]; exact Ev.now _))⟩
      | true => exact ⟨_, Ev.bind (is_ev ea sa la (lens_of_C hra)) (by rw [h1]; simp only [if_true]; exact Ev.bind (is_ev eb sb lb (lens_of_C hrb)) (by rw [h2]; simp only [if_true]; exact Ev.now _))⟩
  obtain ⟨b, hb⟩ := h
  obtain ⟨k, hk⟩ := hb.rounds
  exact (Q.virgationlaw11_many.calls k ea sa A ca la eb sb B cb lb b w hra hca hrb hcb hk).mono fun E w' h => ⟨b, h⟩
end Go.Proofs.Ytmphigeefppfpaa.H
namespace Go.Proofs.Ytmphigeefppfpaa.H
open Go.RowKit Go.Proofs.YtmphigeefppfpaaW.PrintWords Go.Proofs.YtmphigeefppfpaaW.PrintLast Go.Proofs.YtmphigeefppfpaaW.PrintMore
set_option linter.unusedVariables false
theorem ints_self (l : List Int) (hm : l.length ≤ 9223372036854775807) (d : Nat) : ∀ j : Nat, l.length - j = d → j ≤ l.length → Ev (fun k => Q.virgationlaw11_ints.l0 k l l (l.length : Int) (j : Int)) true := by
  induction d with
  | zero =>
    intro j hd hj
    refine ev_end fun k => ?_
    simp only [Q.virgationlaw11_ints.l0]
    rw [if_neg (by omega)]
  | succ d ih =>
    intro j hd hj
    refine ev_next (ih (j + 1) (by omega) (by omega)) fun k => ?_
    simp only [Q.virgationlaw11_ints.l0]
    rw [if_pos (by omega), if_pos (by omega), if_pos (by omega), if_pos (by omega), if_pos trivial, wrap_succ (by omega) (by omega)]
    rfl
theorem ints_calls (A : Option Addr) (c : Nat) (B : Option Addr) (c2 : Nat) (l : List Int) (w : World) (hr : Kd.C (Kd.int .i64) w A l.length l) (hc : l.length ≤ c) (hr2 : Kd.C (Kd.int .i64) w B l.length l) (hc2 : l.length ≤ c2) :
    Calls Try.prog 25 #[.slice A l.length c, .slice B l.length c2] w fun e w' => e = .returned (.bool true) ∧ Below w.heap.size w w' := by
  obtain ⟨k, hk⟩ := (ints_self l hr.2.1 _ 0 rfl (Nat.zero_le _)).rounds
  refine (Q.virgationlaw11_ints.calls k A c l B c2 l true w hr hc hr2 hc2 ?_).mono fun e w' h => ⟨h.1, h.2.below⟩
  unfold Q.virgationlaw11_ints.f
  rw [if_pos rfl]
  exact hk
set_option maxHeartbeats 4000000 in
theorem specApart_calls (ea sa : Int) (A : Option Addr) (ca : Nat) (la : List (List Int)) (eb sb : Int) (B : Option Addr) (cb : Nat) (lb : List (List Int)) (w : World)
    (hra : Kd.C (Kd.slice 3 (Kd.int .i64)) w A la.length la) (hca : la.length ≤ ca) (hrb : Kd.C (Kd.slice 3 (Kd.int .i64)) w B lb.length lb) (hcb : lb.length ≤ cb) :
    Calls Try.prog 6 #[.agg #[.int .i64 ea, .int .i64 sa, .slice A la.length ca], .agg #[.int .i64 eb, .int .i64 sb, .slice B lb.length cb]] w fun e w' => e = .returned (.bool true) ∧ Below w.heap.size w w' := by
  have H0 := Aside0.mk fun W (hW : Below w.heap.size w W) => many_calls ea sa A ca la eb sb B cb lb W (Kd.C_below hra hW) hca (Kd.C_below hrb hW) hcb
  have H1 := Aside0.mk fun W (hW : Below w.heap.size w W) => sapart_calls ea sa A ca la eb sb B cb lb W (Kd.C_below hra hW) hca (Kd.C_below hrb hW) hcb
  have H2 := Aside0.mk fun W (hW : Below w.heap.size w W) => rapart_calls ea sa A ca la eb sb B cb lb W (Kd.C_below hra hW) hca (Kd.C_below hrb hW) hcb
  unfold ApEnd at H1 H2
  unfold SomeBool at H0
  generalize (apVal ea sa la eb sb lb).isSome = is at *
  generalize (apVal ea sa la eb sb lb).getD [] = wd at *
  generalize pairVal ea sa la eb sb lb = err at *
  clear hra hca hrb hcb
  go_enter Try.func6, Try.ntmps6
  go_upto_region 1 with (fail)
  have HS := two3_begin w #[.int .i64 ea, .int .i64 sa, .slice A la.length ca] #[.int .i64 eb, .int .i64 sb, .slice B lb.length cb]
  generalize ((w.alloc (.cells #[.int .i64 ea, .int .i64 sa, .slice A la.length ca] 24)).alloc (.cells #[.int .i64 eb, .int .i64 sb, .slice B lb.length cb] 24)) = w0 at *
  obtain ⟨⟨hc0, hc1, hc2⟩, hd0, hd1, hd2⟩ := two3_held HS
  go_wp2_with fail
  refine (H0.out _ (HS.1).out).mono ?_
  rintro E w1 ⟨b, rfl, hb⟩
  have HS1 := two3_keep hb HS
  clear hb HS hc0 hc1 hc2 hd0 hd1 hd2 H0
  cases b with
  | true =>
    clear H1 H2
    go_wp2_with fail
    refine (alive_calls _).mono ?_
    rintro E w9 ⟨rfl, hb⟩
    have HS9 := two3_keep hb HS1
    go_wp2
    go_ret
    exact ⟨rfl, (HS9.1).out⟩
  | false =>
    obtain ⟨⟨hc0, hc1, hc2⟩, hd0, hd1, hd2⟩ := two3_held HS1
    go_wp2_with fail
    refine (H1.out _ (HS1.1).out).mono ?_
    rintro E w2 ⟨A2, c2, hl2, rfl, hC2, hb⟩
    have HS2 := two3_keep hb HS1
    have HC2 := Aside0.mk hC2
    have HL2 := Aside0.mk hl2
    clear hb HS1 hc0 hc1 hc2 hd0 hd1 hd2 H1 hC2 hl2
    obtain ⟨⟨hc0, hc1, hc2⟩, hd0, hd1, hd2⟩ := two3_held HS2
    go_wp2_with fail
    refine (H2.out _ (HS2.1).out).mono ?_
    rintro E w3 ⟨A3, c3, hl3, rfl, hC3, hb⟩
    have HS3 := two3_keep hb HS2
    have HIN := Aside0.mk (ints_calls A2 c2 A3 c3 wd w3 (Kd.C_below HC2.out hb) HL2.out hC3 hl3)
    clear hb HS2 hc0 hc1 hc2 hd0 hd1 hd2 H2 hC3 hl3 HC2 HL2
    go_wp2_with fail
    refine HIN.out.mono ?_
    rintro E w4 ⟨rfl, hb⟩
    have HS4 := two3_keep hb HS3
    clear hb HS3 HIN
    have hb2 : (is == is) = true := beq_self_eq_true _
    have he2 : (err == err) = true := beq_self_eq_true _
    go_wp2_with fail
    refine (alive_calls _).mono ?_
    rintro E w9 ⟨rfl, hb⟩
    have HS9 := two3_keep hb HS4
    go_wp2
    go_ret
    exact ⟨rfl, (HS9.1).out⟩
end Go.Proofs.Ytmphigeefppfpaa.H
