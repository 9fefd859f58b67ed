/- spec.explored at pairs. -/
import Derived.Test.YtmphigeefppfpaaHe
import Derived.Test.YtmphigeefppfpaaHk
namespace Go.Proofs.Ytmphigeefppfpaa.H
open Go.RowKit Go.Proofs.YtmphigeefppfpaaW.PrintWords Go.Proofs.YtmphigeefppfpaaW.PrintLast Go.Proofs.YtmphigeefppfpaaW.PrintMore
set_option linter.unusedVariables false

def kP : Kd (Int × Int) := Kd.pair (Kd.int .i64) (Kd.int .i64)
def encP (p : Int × Int) : Value := .agg #[.int .i64 p.1, .int .i64 p.2]
def domP (p : Int × Int) : Prop := wf64 p.1 ∧ wf64 p.2
theorem key56 : KeyB Try.prog 56 (encA .i64) (fun xs => xs.length = 2 ∧ ∀ x ∈ xs, (Lit.int .i64 x).wf = true) := keyArr (P := Try.prog) (e := 3) (n := 2) (by kernel_rfl) (of_decide_eq_true (by kernel_rfl)) (by kernel_rfl) (by kernel_rfl) Try.underlying56 Try.underlying3 (by kernel_rfl) (by kernel_rfl) (of_decide_eq_true (by kernel_rfl))
theorem keyPair : KeyB Try.prog 56 encP domP where
  K := key56.K
  lit := fun p h => key56.lit [p.1, p.2] ⟨rfl, fun x hx => by
    simp only [List.mem_cons, List.not_mem_nil, or_false] at hx
    rcases hx with rfl | rfl
    · exact h.1
    · exact h.2⟩
  inj := fun p q h => by
    obtain ⟨a, b⟩ := p
    obtain ⟨c, d⟩ := q
    simp only [encP, Value.agg.injEq] at h
    have := congrArg Array.toList h
    simp at this
    exact Prod.ext this.1 this.2
theorem info56 : (Try.prog.info? 56).map (fun i => (i.zero, i.size, i.bytes)) = some (some (.agg #[.int .i64 0, .int .i64 0]), 2, 16) := by kernel_rfl
theorem M_pair (W : World) (base : Nat) (ok : Nat → Prop) (p : Int × Int) : kP.M W base ok p [.int .i64 p.1, .int .i64 p.2] := ⟨[.int .i64 p.1], [.int .i64 p.2], rfl, rfl, rfl⟩
/-- One pair in a new block. -/
theorem R_new1P (W : World) (x : Int × Int) (base : Nat) (hb : base ≤ W.heap.size) : Kd.R kP 56 (W.alloc (.cells #[.int .i64 x.1, .int .i64 x.2] 56)) base (fun k => k = W.heap.size) (.slice (some ⟨W.heap.size, 0, none⟩) 1 1) [x] := by
  refine ⟨fun k hk => ?_, [.int .i64 x.1, .int .i64 x.2], ⟨by rfl, .inr ⟨W.heap.size, 1, #[.int .i64 x.1, .int .i64 x.2], rfl, hb, blk_new _ _, by simp, by decide, by simp [kP, Kd.pair, Kd.int, Kd.scalar], by simp [kP, Kd.pair, Kd.int, Kd.scalar]⟩⟩, ?_⟩
  · have : W.heap.size = k := by simpa [Value.ownBlock] using hk
    omega
  · exact (Reps.none _ _).snoc (M_pair _ _ _ x) rfl
theorem pair_at {e base n cap : Nat} {ok : Nat → Prop} {W : World} {A : Option Addr} {xs : List (Int × Int)} (h : kP.R e W base ok (.slice A n cap) xs) {i : Nat} (hi : i < xs.length) (hn : n = xs.length) :
    ∃ ad, A = some ad ∧ W.cell? (ad.add (i * 2)) = some (.int .i64 xs[i].1) ∧ W.cell? ⟨(ad.add (i * 2)).block, (ad.add (i * 2)).off + 1, none⟩ = some (.int .i64 xs[i].2) := by
  cases A with
  | none =>
    obtain ⟨A', c', he⟩ := Kd.R_slice h
    obtain ⟨_, inner, ho, _⟩ := h
    rcases ho.2 with ⟨hv, _⟩ | ⟨g, cap, cur, hv, _⟩
    · injection hv with _ h2 _; omega
    · injection hv with h2 _ _; cases h2
  | some ad =>
    refine ⟨ad, rfl, ?_⟩
    obtain ⟨c, hc, hM, hcc⟩ := Kd.R_get h (0, 0) (i : Int) (by omega) (by omega)
    rw [Int.toNat_natCast, List.getD_eq_getElem?_getD, List.getElem?_eq_getElem hi, Option.getD_some] at hM
    obtain ⟨c0, c1, rfl, h0, h1⟩ := hM
    have e0 : c0 = [.int .i64 xs[i].1] := h0
    have e1 : c1 = [.int .i64 xs[i].2] := h1
    subst e0; subst e1
    rw [Int.toNat_natCast] at hcc
    refine ⟨hcc 0 _ rfl, ?_⟩
    have h2 := hcc 1 _ rfl
    obtain ⟨_, inner, ho, _⟩ := h
    rcases ho.2 with ⟨hv, _⟩ | ⟨g, cap, cur, hv, _⟩
    · cases hv
    · injection hv with hg _ _
      injection hg with hg
      subst hg
      rw [add_at] at h2 ⊢
      exact h2

/-- A step function handed over. -/
def StepWP (g : Nat) (lb : Array Value) (D : Int × Int → Prop) (n : Nat) (step : Int × Int → Nat → (Int × Int) × Bool) (w : World) : Prop :=
  ∀ (W : World) (x : Int × Int) (e : Nat), Below w.heap.size w W → D x → e < n → Calls Try.prog g (#[.agg #[.int .i64 x.1, .int .i64 x.2], .int .i64 e] ++ lb) W fun E w' => E = .returned (.tuple #[.agg #[.int .i64 (step x e).1.1, .int .i64 (step x e).1.2], .bool (step x e).2]) ∧ Below W.heap.size W w'

/-- The rows and the queue are the call's own, apart from each other. -/
def ExEndP (n : Nat) (step : Int × Int → Nat → (Int × Int) × Bool) (start : Int × Int) (m : Nat) (w : World) (e : Ending) (w' : World) : Prop :=
  ∃ (ov qv : Value) (So Sq : Nat → Prop), e = .returned (.tuple #[ov, qv]) ∧ (∀ k, So k → ¬ Sq k) ∧ Kd.R (Kd.slice 3 (Kd.int .i64)) 25 w' w.heap.size So ov (bfsTo n step start m).1 ∧ Kd.R kP 56 w' w.heap.size Sq qv (bfsTo n step start m).2 ∧ Below w.heap.size w w'

set_option maxHeartbeats 4000000 in
set_option maxRecDepth 100000 in
theorem exploredP_calls (n : Nat) (start : Int × Int) (g : Nat) (lb : Array Value) (D : Int × Int → Prop) (step : Int × Int → Nat → (Int × Int) × Bool) (m : Nat) (w : World) (hn : n ≤ 16) (hm : m ≤ 100000) (hend : (bfsTo n step start m).2.length ≤ m)
    (hp : StepWP g lb D n step w) (h0 : D start) (hstep : ∀ x e, D x → e < n → (step x e).2 = true → D (step x e).1) (hD : ∀ x, D x → domP x)
    (eg : ∀ args w, (callFunc g args).run Try.prog w = .ok (.enter g args) w) :
    Calls Try.prog 67 #[.int .i64 n, .agg #[.int .i64 start.1, .int .i64 start.2], .func (.func g) #[] lb] w (ExEndP n step start m w) := by
  have hmm := @run_makeMap Try.prog
  have HP := Aside0.mk hp
  have HE := Aside0.mk hend
  have HS := Aside0.mk hstep
  have HD := Aside0.mk hD
  have HD0 := Aside0.mk h0
  clear hp hend hstep hD h0
  go_enter Try.func67, Try.ntmps67
  go_upto_region 1 with (fail)
  have HX0 := Aside0.mk (blk_new w (.cells #[.int .i64 start.1, .int .i64 start.2] 56))
  have HB0 := Aside0.mk (below_alloc (Below.refl w.heap.size w) (.cells #[.int .i64 start.1, .int .i64 start.2] 56))
  generalize (w.alloc (.cells #[.int .i64 start.1, .int .i64 start.2] 56)) = W0 at *
  obtain ⟨wm, hrun, HM0, hgm⟩ := MapIs.put (mapIs_new W0 encP encN domP) keyPair Try.underlying96 (HD.out _ HD0.out) 0
  have hrun' : (Instr.mapUpdate 96 (.map (some W0.heap.size)) (.agg #[.int .i64 start.1, .int .i64 start.2]) (.int .i64 0)).run Try.prog (W0.alloc (.map #[] 0)) = .ok () wm := hrun
  clear hrun
  have HXM := Aside0.mk (blk_grown (blk_alloc HX0.out (.map #[] 0)) hgm (fun e => by injection e with e; exact MapIs.ne_row (mapIs_new (ν := Nat) W0 encP encN domP) (blk_alloc HX0.out (.map #[] 0)) e))
  have hm0 : (W0.alloc (.map #[] 0)).cell? ⟨w.heap.size, 0, none⟩ = some (.int .i64 start.1) := (blk_cell (blk_alloc HX0.out (.map #[] 0)) 0).trans rfl
  have hm1 : (W0.alloc (.map #[] 0)).cell? ⟨w.heap.size, 1, none⟩ = some (.int .i64 start.2) := (blk_cell (blk_alloc HX0.out (.map #[] 0)) 1).trans rfl
  have hx0 : wm.cell? ⟨w.heap.size, 0, none⟩ = some (.int .i64 start.1) := (blk_cell HXM.out 0).trans rfl
  have hx1 : wm.cell? ⟨w.heap.size, 1, none⟩ = some (.int .i64 start.2) := (blk_cell HXM.out 1).trans rfl
  have HBM := Aside0.mk (pw_below_grown (below_alloc HB0.out (.map #[] 0)) _ (Nat.le_trans (HB0.out).size (by simp)) hgm (fun k hk => by cases hk; exact (HB0.out).size))
  have HM0 := Aside0.mk HM0
  have HMB := Aside0.mk (HB0.out).size
  clear HX0 HXM hgm
  go_wp2
  generalize W0.heap.size = MB at *
  clear hm0 hm1 hx0 hx1 hrun'
  have HB0 := Aside0.mk (below_alloc HBM.out (.cells #[.int .i64 start.1, .int .i64 start.2] 56))
  have HQ0 := Aside0.mk (R_new1P wm start w.heap.size (HBM.out).size)
  have HM1 := Aside0.mk (MapIs.below HM0.out (below_alloc (Below.refl _ _) (.cells #[.int .i64 start.1, .int .i64 start.2] 56)))
  clear HM0 HBM
  go_loopg [9, 10, 11] m (fun gg v9 v10 v11 wr => ∃ (i : Nat) (So Sq : Nat → Prop), i ≤ m ∧ m - i ≤ gg ∧ v11 = .int .i64 i ∧ Aside0 (Disj So Sq) ∧ Aside0 (Below w.heap.size w wr) ∧ Aside0 (MapIs wr MB encP encN domP (bfsTo n step start i).2.zipIdx) ∧ Aside0 (Kd.R kP 56 wr w.heap.size Sq v9 (bfsTo n step start i).2) ∧ Aside0 (Kd.R (Kd.slice 3 (Kd.int .i64)) 25 wr w.heap.size So v10 (bfsTo n step start i).1))
  case atStart =>
    exact ⟨0, fun _ => False, fun k => k = wm.heap.size, by omega, by omega, rfl, ⟨fun _ h => h.elim⟩, HB0, HM1, HQ0, ⟨Kd.R_nil _ _ _ _ _⟩⟩
  case round =>
    clear HB0 HQ0 HM1
    obtain ⟨i, So, Sq, him, hg, rfl, HDJ, HB, HM, HQ, HO⟩ := hrel
    obtain ⟨A9, c9, rfl⟩ := Kd.R_slice HQ.out
    obtain ⟨A10, c10, rfl⟩ := Kd.R_slice HO.out
    have hmono := Aside0.mk (Nat.le_trans (bfsTo_mono (n := n) (step := step) (start := start) him) HE.out)
    by_cases hlt : i < (bfsTo n step start i).2.length
    · have hltz : (i : Int) < ((bfsTo n step start i).2.length : Int) := by omega
      have HST := Aside0.mk (bfsTo_step (n := n) (step := step) (start := start) hlt)
      have hqm := Aside0.mk (Nat.le_trans (bfsTo_mono (n := n) (step := step) (start := start) (i := i + 1) (m := m) (by have := hmono.out; omega)) HE.out)
      have HXD := Aside0.mk (bfsTo_all (n := n) (D := D) HS.out HD0.out i _ (List.getElem_mem hlt))
      have HQD := Aside0.mk (bfsTo_all (n := n) (D := D) HS.out HD0.out i)
      have HXI := Aside0.mk (List.getElem?_eq_getElem hlt)
      have HOL := Aside0.mk (bfsTo_out (n := n) (step := step) (start := start) (i := i))
      generalize (bfsTo n step start i).2[i] = x at *
      rw [HST.out] at hqm
      have him2 : i + 1 ≤ m := by
        have h1 := hmono.out
        omega
      clear hmono
      generalize (bfsTo n step start i).2 = q at *
      generalize (bfsTo n step start i).1 = o at *
      go_wp2_with ((with_reducible refine gate_dst (N := 30) rfl ?_); refine Kd.R_make (Kd.int .i64) w.heap.size 3 rfl (N := 30) rfl 25 _ _ rfl (n : Int) rfl rfl Try.underlying25 (.int .i64 0) 8 info3 rfl (by decide) (by omega) 0 (ok := fun k => wr.heap.size ≤ k) (okp := fun _ => False) rfl (fun _ hk => hk.elim) (Nat.le_refl _) (by omega) (by omega) HB.out (HB.out).size ?_; intro v1 w1 hr1 hb1 hg1 hnew1)
      obtain ⟨rb, hrb, hrb2⟩ := hnew1
      obtain ⟨capr, hv1⟩ := R_formB hr1 hrb
      rw [List.length_replicate, Int.toNat_natCast] at hv1
      subst hv1
      have HR1 := Aside0.mk hr1
      have HB1 := Aside0.mk hb1
      have HM1 := Aside0.mk ((HM.out).grown hg1 (by simp))
      have HQ1 := Aside0.mk (R_stay HQ.out hg1 (by simp))
      have HO1 := Aside0.mk (R_stay HO.out hg1 (by simp))
      have HDJ1 := Aside0.mk ((HDJ.out).less wr.heap.size)
      have HDR1 := Aside0.mk (show Disj (fun k => So k ∧ k < wr.heap.size) (fun k => wr.heap.size ≤ k) from fun k ha hb => by have := ha.2; omega)
      have HDS1 := Aside0.mk (show Disj (fun k => Sq k ∧ k < wr.heap.size) (fun k => wr.heap.size ≤ k) from fun k ha hb => by have := ha.2; omega)
      clear hr1 hb1 hg1 HM HQ HO hrb hrb2 HDJ HB
      rw [Int.toNat_natCast] at HR1
      generalize (fun k => So k ∧ k < wr.heap.size) = So1 at *
      generalize (fun k => Sq k ∧ k < wr.heap.size) = Sq1 at *
      generalize (fun k => wr.heap.size ≤ k) = Sr1 at *
      go_wp2
      go_loopg [9, 32] n (fun gk v9 v32 wi => ∃ (e : Nat) (So Sq Sr : Nat → Prop), e ≤ n ∧ n - e ≤ gk ∧ v32 = .int .i64 e ∧ Aside0 (Disj So Sq) ∧ Aside0 (Disj So Sr) ∧ Aside0 (Disj Sq Sr) ∧ Aside0 (Below w.heap.size w wi) ∧
        Aside0 (MapIs wi MB encP encN domP (rowTo step x q e).2.zipIdx) ∧ Aside0 (Kd.R kP 56 wi w.heap.size Sq v9 (rowTo step x q e).2) ∧
        Aside0 (Kd.R (Kd.slice 3 (Kd.int .i64)) 25 wi w.heap.size So (.slice A10 o.length c10) o) ∧ Aside0 (Kd.R (Kd.int .i64) 3 wi w.heap.size Sr (.slice (some ⟨rb, 0, none⟩) n capr) ((rowTo step x q e).1 ++ List.replicate (n - e) 0)))
      case atStart => exact ⟨0, So1, Sq1, Sr1, by omega, by omega, rfl, HDJ1, HDR1, HDS1, HB1, HM1, HQ1, HO1, HR1⟩
      case round =>
        clear HDJ1 HDR1 HDS1 HB1 HM1 HQ1 HO1 HR1 So1 Sq1 Sr1 So Sq
        obtain ⟨e, So, Sq, Sr, hen, hgk, rfl, HDJ, HDR, HDS, HB, HM, HQ, HO, HR⟩ := hrel
        by_cases hle : e < n
        · have hlez : (e : Int) < (n : Int) := by omega
          obtain ⟨A9, c9, rfl⟩ := Kd.R_slice HQ.out
          obtain ⟨hc1, hf1⟩ := Kd.R_celln 0 HR.out (e : Int) (by omega) (by omega)
          rw [Int.toNat_natCast] at hc1 hf1
          have HPUT := Kd.R_putg HR.out (e : Int) (-1)
          rw [Int.toNat_natCast, set_next rowTo_len hle] at HPUT
          have HRB := Aside0.mk (HR.out.1 rb rfl)
          have HPUT := Aside0.mk HPUT
          go_upto_region 12 with (fail)
          clear hc1 hf1
          have HR2 := Aside0.mk (HPUT.out).1
          have hg2 := (HPUT.out).2
          have HQ2 := Aside0.mk (R_stay HQ.out hg2 (fun k hk => by cases hk; exact fun h => HDS.out _ h HRB.out))
          have HO2 := Aside0.mk (R_stay HO.out hg2 (fun k hk => by cases hk; exact fun h => HDR.out _ h HRB.out))
          have HM2 := Aside0.mk (MapIs.stay HM.out HR.out hg2)
          have HB2 := Aside0.mk (pw_below_grown HB.out _ (HB.out).size hg2 (Kd.R_base HR.out))
          have HDJ2 := Aside0.mk ((HDJ.out).less wr.heap.size)
          have HDR2 := Aside0.mk (show Disj (fun k => So k ∧ k < wr.heap.size) Sr from fun k ha hb => HDR.out k ha.1 hb)
          have HDS2 := Aside0.mk (show Disj (fun k => Sq k ∧ k < wr.heap.size) Sr from fun k ha hb => HDS.out k ha.1 hb)
          clear HPUT HR HQ HO HM HB HDJ HDR HDS hg2
          generalize (wr.setCell ⟨rb, e, none⟩ (Value.int .i64 (-1))) = w2 at *
          generalize (fun k => So k ∧ k < wr.heap.size) = So2 at *
          generalize (fun k => Sq k ∧ k < wr.heap.size) = Sq2 at *
          have hpre : ∃ h : i < (rowTo step x q e).2.length, (rowTo step x q e).2[i] = x := by
            obtain ⟨r, hr⟩ := rowTo_pre (step := step) (x := x) (q := q) (e := e)
            have hlen : i < (rowTo step x q e).2.length := by rw [hr, List.length_append]; omega
            refine ⟨hlen, ?_⟩
            have h2 : (rowTo step x q e).2[i]? = some x := by
              rw [hr, List.getElem?_append_left hlt]
              exact HXI.out
            exact (List.getElem?_eq_some_iff.1 h2).2
          obtain ⟨hpre1, hpre2⟩ := hpre
          have hprez : (i : Int) < ((rowTo step x q e).2.length : Int) := by omega
          obtain ⟨ad, e0, hxa, hxb⟩ := pair_at HQ2.out hpre1 rfl
          cases e0
          rw [hpre2] at hxa hxb
          clear hpre2
          have hcall := Aside0.mk (HP.out w2 x e HB2.out HXD.out hle)
          have HRS := Aside0.mk (show rowTo step x q (e + 1) = if (step x e).2 then ((rowTo step x q e).1 ++ [(place (step x e).1 (rowTo step x q e).2 : Int)], ins (rowTo step x q e).2 (step x e).1) else ((rowTo step x q e).1 ++ [-1], (rowTo step x q e).2) from rfl)
          have HYD := Aside0.mk (HS.out x e HXD.out hle)
          have hqlen := Aside0.mk (Nat.le_trans (rowTo_mono (step := step) (x := x) (q := q) (e := e) (e' := n) (by omega)) hqm.out)
          have hqlen1 := Aside0.mk (Nat.le_trans (rowTo_mono (step := step) (x := x) (q := q) (e := e + 1) (e' := n) (by omega)) hqm.out)
          generalize (step x e).1 = y at *
          cases hok : (step x e).2 with
          | false =>
            simp only [hok, Bool.false_eq_true, if_false] at HRS hcall
            go_wp2_with fail
            refine hcall.out.mono ?_
            rintro E w3 ⟨rfl, hb⟩
            have HB3 := Aside0.mk (below_then HB2.out (HB2.out).size hb)
            have HM3 := Aside0.mk (MapIs.below HM2.out hb)
            have HQ3 := Aside0.mk (Kd.R_below HQ2.out hb)
            have HO3 := Aside0.mk (Kd.R_below HO2.out hb)
            have HR3 := Aside0.mk (Kd.R_below HR2.out hb)
            clear hb HB2 HM2 HQ2 HO2 HR2 hcall hxa hxb
            go_upto_region 13 with (fail)
            have HBX := below_alloc (Below.refl w3.heap.size w3) (.cells #[.int .i64 y.1, .int .i64 y.2] 56)
            have HB3 := Aside0.mk (below_then HB3.out (HB3.out).size HBX)
            have HM3 := Aside0.mk (MapIs.below HM3.out HBX)
            have HQ3 := Aside0.mk (Kd.R_below HQ3.out HBX)
            have HO3 := Aside0.mk (Kd.R_below HO3.out HBX)
            have HR3 := Aside0.mk (Kd.R_below HR3.out HBX)
            clear HBX
            generalize (w3.alloc (.cells #[.int .i64 y.1, .int .i64 y.2] 56)) = w3b at *
            go_wp2
            go_roundg (n - (e + 1))
            case measure => omega
            case rel =>
              refine ⟨e + 1, So2, Sq2, Sr, by omega, by omega, by go_num, HDJ2, HDR2, HDS2, HB3, ?_, ?_, HO3, ?_⟩
              · rw [HRS.out]; exact HM3
              · rw [HRS.out]; exact HQ3
              · rw [HRS.out]; exact HR3
          | true =>
            simp only [hok, if_true] at HRS hcall
            have HY := Aside0.mk (HYD.out hok)
            clear hok HYD
            go_wp2_with fail
            refine hcall.out.mono ?_
            rintro E w3 ⟨rfl, hb⟩
            have HB3 := Aside0.mk (below_then HB2.out (HB2.out).size hb)
            have HM3 := Aside0.mk (MapIs.below HM2.out hb)
            have HQ3 := Aside0.mk (Kd.R_below HQ2.out hb)
            have HO3 := Aside0.mk (Kd.R_below HO2.out hb)
            have HR3 := Aside0.mk (Kd.R_below HR2.out hb)
            clear hb HB2 HM2 HQ2 HO2 HR2 hcall hxa hxb
            go_upto_region 13 with (fail)
            have HBX := below_alloc (Below.refl w3.heap.size w3) (.cells #[.int .i64 y.1, .int .i64 y.2] 56)
            have HYB := Aside0.mk (blk_new w3 (.cells #[.int .i64 y.1, .int .i64 y.2] 56))
            have HB3 := Aside0.mk (below_then HB3.out (HB3.out).size HBX)
            have HM3 := Aside0.mk (MapIs.below HM3.out HBX)
            have HQ3 := Aside0.mk (Kd.R_below HQ3.out HBX)
            have HO3 := Aside0.mk (Kd.R_below HO3.out HBX)
            have HR3 := Aside0.mk (Kd.R_below HR3.out HBX)
            clear HBX
            generalize (w3.alloc (.cells #[.int .i64 y.1, .int .i64 y.2] 56)) = w3b at *
            generalize w3.heap.size = yb at *
            have hy0 : w3b.cell? ⟨yb, 0, none⟩ = some (.int .i64 y.1) := (blk_cell HYB.out 0).trans rfl
            have hy1 : w3b.cell? ⟨yb, 1, none⟩ = some (.int .i64 y.2) := (blk_cell HYB.out 1).trans rfl
            have hl : (Instr.lookup 96 (.map (some MB)) (.agg #[.int .i64 y.1, .int .i64 y.2]) true).run Try.prog w3b = _ := MapIs.look HM3.out keyPair Try.underlying96 (zero3 w3b) (HD.out y HY.out) true
            rw [mget_place] at hl
            have HRB := Aside0.mk (HR3.out.1 rb rfl)
            by_cases hmem : y ∈ (rowTo step x q e).2
            · simp only [hmem, if_true] at hl
              have HRS := Aside0.mk (HRS.out.trans (by rw [ins, if_pos hmem]))
              clear hmem
              generalize (rowTo step x q e).2 = qe at *
              generalize (place y qe) = kk at *
              have HPUT := Kd.R_putg HR3.out (e : Int) (kk : Int)
              rw [Int.toNat_natCast, set_last rowTo_len] at HPUT
              obtain ⟨hc1, hf1⟩ := Kd.R_celln 0 HR3.out (e : Int) (by omega) (by omega)
              rw [Int.toNat_natCast] at hc1 hf1
              have HPUT := Aside0.mk HPUT
              unfold encN at hl
              go_wp2
              go_roundg (n - (e + 1))
              case measure => omega
              case rel =>
                have hg4 := (HPUT.out).2
                refine ⟨e + 1, fun k => So2 k ∧ k < w3b.heap.size, fun k => Sq2 k ∧ k < w3b.heap.size, Sr, by omega, by omega, by go_num, ⟨(HDJ2.out).less w3b.heap.size⟩, ⟨fun k ha hb => HDR2.out k ha.1 hb⟩, ⟨fun k ha hb => HDS2.out k ha.1 hb⟩, ⟨pw_below_grown HB3.out _ (HB3.out).size hg4 (Kd.R_base HR3.out)⟩, ?_, ?_, ⟨R_stay HO3.out hg4 (fun k hk => by cases hk; exact fun h => HDR2.out _ h HRB.out)⟩, ?_⟩
                · rw [HRS.out]; exact ⟨MapIs.stay HM3.out HR3.out hg4⟩
                · rw [HRS.out]; exact ⟨R_stay HQ3.out hg4 (fun k hk => by cases hk; exact fun h => HDS2.out _ h HRB.out)⟩
                · rw [HRS.out]; exact ⟨(HPUT.out).1⟩
            · simp only [hmem, if_false] at hl
              have HRS := Aside0.mk (HRS.out.trans (by rw [ins, if_neg hmem, place_new hmem]))
              have HNEW := Aside0.mk (mput_zip hmem)
              rw [HRS.out] at hqlen1
              clear hmem
              generalize (rowTo step x q e).2 = qe at *
              obtain ⟨w4, hput0, HM4, hg4⟩ := MapIs.put HM3.out keyPair Try.underlying96 (HD.out y HY.out) qe.length
              have hput : (Instr.mapUpdate 96 (.map (some MB)) (.agg #[.int .i64 y.1, .int .i64 y.2]) (.int .i64 (qe.length : Int))).run Try.prog w3b = .ok () w4 := hput0
              clear hput0
              have HY4 := Aside0.mk (blk_grown HYB.out hg4 (fun e => by injection e with e; exact (HM3.out).ne_row HYB.out e))
              have hz0 : w4.cell? ⟨yb, 0, none⟩ = some (.int .i64 y.1) := (blk_cell HY4.out 0).trans rfl
              have hz1 : w4.cell? ⟨yb, 1, none⟩ = some (.int .i64 y.2) := (blk_cell HY4.out 1).trans rfl
              rw [HNEW.out] at HM4
              have HM4 := Aside0.mk HM4
              have HB4 := Aside0.mk (pw_below_grown HB3.out _ (HB3.out).size hg4 (fun k hk => by cases hk; exact HMB.out))
              have hmb : ∀ {α : Type} {d : Kd α} {e base : Nat} {S : Nat → Prop} {v : Value} {xs : List α}, d.R e w3b base S v xs → d.R e w4 base (fun k => S k ∧ k < w3b.heap.size) v xs := fun h =>
                Kd.R_mono (Kd.R_step (Kd.R_bound h) (fun k hk hlt => hg4.block k hlt (fun he => by
                  cases he
                  obtain ⟨_, _, _, q, _, cells, hc⟩ := hk
                  exact (HM3.out).ne_row hc rfl))) (fun k hk => ⟨hk.1, hk.2.2.1⟩)
              have HQ4 := Aside0.mk (hmb HQ3.out)
              have HO4 := Aside0.mk (hmb HO3.out)
              have HR4 := Aside0.mk (hmb HR3.out)
              have HDJ4 := Aside0.mk ((HDJ2.out).less w3b.heap.size)
              have HDR4 := Aside0.mk ((HDR2.out).less w3b.heap.size)
              have HDS4 := Aside0.mk ((HDS2.out).less w3b.heap.size)
              have HG4 := Aside0.mk hg4
              clear hmb HM3 HQ3 HO3 HR3 HDJ2 HDR2 HDS2 hg4 HRB HB3
              rw [if_pos trivial] at hl
              generalize (fun k => So2 k ∧ k < w3b.heap.size) = So4 at *
              generalize (fun k => Sq2 k ∧ k < w3b.heap.size) = Sq4 at *
              generalize (fun k => Sr k ∧ k < w3b.heap.size) = Sr4 at *
              have hlen5 : (qe.length + 1) * 16 ≤ 140737488355328 := by
                have := hqlen1.out
                simp only [List.length_append, List.length_singleton] at this
                omega
              go_wp2_with ((with_reducible refine gate_builtin (b := .append) (xs := #[.tmp 63, .tmp 65]) rfl ?_); at_builtin; refine Kd.R_append kP (w0 := w) w.heap.size rfl (.tmp 63) (.tmp 65) 60 56 (.agg #[.int .i64 0, .int .i64 0]) 16 rfl Try.underlying60 info56 rfl (by decide) (by omega) (.slice (some ad) qe.length c9) qe y [.int .i64 y.1, .int .i64 y.2] (fun k => Sq4 k ∨ w4.heap.size ≤ k) (fun _ => False) rfl rfl (M_pair _ _ _ y) (fun _ hk => hk.elim) (fun k hk => .inr hk) (Kd.R_mono HQ4.out (fun _ hk => .inl hk)) HB4.out (HB4.out).size hlen5 ?_; intro v5 w5 ho5 hb5 hg5 hat5; have HQ5 := Aside0.mk ho5; have HB5 := Aside0.mk hb5; have HM5 := Aside0.mk (MapIs.stay HM4.out HQ4.out hg5); have HO5 := Aside0.mk (R_stay HO4.out hg5 (fun k hk h => HDJ4.out k h (HQ4.out.1 k hk))); have HR5 := Aside0.mk (R_stay HR4.out hg5 (fun k hk h => HDS4.out k (HQ4.out.1 k hk) h)); clear ho5 hb5 hg5 hat5 HQ4 HB4 HM4; (obtain ⟨hc1, hf1⟩ := Kd.R_celln 0 HR5.out (e : Int) (by omega) (by omega)); rw [Int.toNat_natCast] at hc1 hf1)
              have HPUT := Kd.R_putg HR5.out (e : Int) (qe.length : Int)
              rw [Int.toNat_natCast, set_last rowTo_len] at HPUT
              have HPUT := Aside0.mk HPUT
              have HRB := Aside0.mk (HR5.out.1 rb rfl)
              go_roundg (n - (e + 1))
              case measure => omega
              case rel =>
                have hg6 := (HPUT.out).2
                have HDR5 := (HDR4.out).less w4.heap.size
                have HDJ5 := (HDJ4.out).symm.fresh w4.heap.size
                have HDS5 := (HDS4.out).fresh w4.heap.size
                refine ⟨e + 1, _, fun k => (Sq4 k ∨ w4.heap.size ≤ k) ∧ k < w5.heap.size, _, by omega, by omega, by go_num, ⟨fun k ha hb => HDJ5 k hb.1 ha.1⟩, ⟨fun k ha hb => HDR5 k ha.1 hb⟩, ⟨fun k ha hb => HDS5 k ha.1 hb⟩, ⟨pw_below_grown HB5.out _ (HB5.out).size hg6 (Kd.R_base HR5.out)⟩, ?_, ?_, ⟨R_stay HO5.out hg6 (fun k hk => by cases hk; exact fun h => HDR5 _ h HRB.out)⟩, ?_⟩
                · rw [HRS.out]; exact ⟨MapIs.stay HM5.out HR5.out hg6⟩
                · rw [HRS.out]; exact ⟨R_stay HQ5.out hg6 (fun k hk => by cases hk; exact fun h => HDS5 _ h HRB.out)⟩
                · rw [HRS.out]; exact ⟨(HPUT.out).1⟩
        · have hlez : ¬ (e : Int) < (n : Int) := by omega
          obtain rfl : e = n := by omega
          obtain ⟨A9, c9, rfl⟩ := Kd.R_slice HQ.out
          rw [Nat.sub_self, List.replicate_zero, List.append_nil] at HR
          have hlo : (o.length + 1) * 24 ≤ 140737488355328 := by have := HOL.out; omega
          go_wp2_with ((with_reducible refine gate_builtin (b := .append) (xs := #[.tmp 72, .tmp 74]) rfl ?_); at_builtin; refine Kd.R_append (Kd.slice 3 (Kd.int .i64)) (w0 := w) w.heap.size rfl (.tmp 72) (.tmp 74) 67 25 (.slice none 0 0) 24 rfl Try.underlying67 info25 rfl (by decide) (by omega) (.slice A10 o.length c10) o (rowTo step x q e).1 [.slice (some ⟨rb, 0, none⟩) e capr] (fun k => (So k ∨ Sr k) ∨ wr.heap.size ≤ k) Sr rfl rfl ⟨_, rfl, HR.out⟩ (fun k hk => ⟨.inl (.inr hk), fun he => HDR.out k (HO.out.1 k he.symm) hk⟩) (fun k hk => .inr hk) (Kd.R_mono HO.out (fun _ hk => .inl (.inl hk))) HB.out (HB.out).size hlo ?_; intro v5 w5 ho5 hb5 hg5 hat5; have HO5 := Aside0.mk ho5; have HB5 := Aside0.mk hb5; have HM5 := Aside0.mk (MapIs.stay HM.out HO.out hg5); have HQ5 := Aside0.mk (R_stay HQ.out hg5 (fun k hk h => HDJ.out k (HO.out.1 k hk) h)); clear ho5 hb5 hg5 hat5 HO HB HM HQ HR)
          go_roundg (m - (i + 1))
          case measure => omega
          case rel =>
            refine ⟨i + 1, fun k => (So k ∨ Sr k) ∨ wr.heap.size ≤ k, fun k => Sq k ∧ k < wr.heap.size, him2, by omega, by go_num, ?_, HB5, ?_, ?_, ?_⟩
            rotate_left 1
            · rw [HST.out]; exact HM5
            · rw [HST.out]; exact HQ5
            · rw [HST.out]; exact HO5
            · refine ⟨fun k ha hb => ?_⟩
              rcases ha with (ha | ha) | ha
              · exact HDJ.out k ha hb.1
              · exact HDS.out k hb.1 ha
              · have := hb.2; omega
    · have hltz : ¬ (i : Int) < ((bfsTo n step start i).2.length : Int) := by omega
      have HFin := Aside0.mk (show bfsTo n step start m = bfsTo n step start i by
        have := bfsTo_stays (n := n) (step := step) (start := start) hlt (m - i)
        rwa [show i + (m - i) = m from by omega] at this)
      clear hmono
      generalize hq : (bfsTo n step start i) = bi at *
      clear hq
      go_wp2
      go_ret2
      refine ⟨_, _, So, Sq, rfl, HDJ.out, ?_, ?_, HB.out⟩
      · rw [HFin.out]; exact HO.out
      · rw [HFin.out]; exact HQ.out
end Go.Proofs.Ytmphigeefppfpaa.H
