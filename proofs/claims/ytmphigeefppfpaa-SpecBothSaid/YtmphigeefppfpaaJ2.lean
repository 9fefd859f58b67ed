/- Several texts in one: Ie, If, Ig, Ih, Ii, Ij, Il, Im, In. -/
import Derived.Test.YtmphigeefppfpaaHe
import Derived.Test.YtmphigeefppfpaaHk
import Derived.Test.YtmphigeefppfpaaIc
import Derived.Test.YtmphigeefppfpaaId
import Derived.Test.YtmphigeefppfpaaQ5
/- spec.explored at pairs. -/
namespace Go.Proofs.Ytmphigeefppfpaa.H
open Go.RowKit Go.Proofs.YtmphigeefppfpaaW.PrintWords Go.Proofs.YtmphigeefppfpaaW.PrintLast Go.Proofs.YtmphigeefppfpaaW.PrintMore
set_option linter.unusedVariables false

def kP : Kd (Int × Int) := Kd.pair (Kd.int .i64) (Kd.int .i64)
def encP (p : Int × Int) : Value := .agg #[.int .i64 p.1, .int .i64 p.2]
def domP (p : Int × Int) : Prop := wf64 p.1 ∧ wf64 p.2
theorem key56 : KeyB Try.prog 56 (encA .i64) (fun xs => xs.length = 2 ∧ ∀ x ∈ xs, (Lit.int .i64 x).wf = true) := keyArr (P := Try.prog) (e := 3) (n := 2) (by kernel_rfl) (of_decide_eq_true (by kernel_rfl)) (by kernel_rfl) (by kernel_rfl) Try.underlying56 Try.underlying3 (by kernel_rfl) (by kernel_rfl) (of_decide_eq_true (by kernel_rfl))
theorem keyPair : KeyB Try.prog 56 encP domP where
  K := key56.K
  lit := fun p h => key56.lit [p.1, p.2] ⟨rfl, fun x hx => by
    simp only [List.mem_cons, List.not_mem_nil, or_false] at hx
    rcases hx with rfl | rfl
    · exact h.1
    · exact h.2⟩
  inj := fun p q h => by
    obtain ⟨a, b⟩ := p
    obtain ⟨c, d⟩ := q
    simp only [encP, Value.agg.injEq] at h
    have := congrArg Array.toList h
    simp at this
    exact Prod.ext this.1 this.2
theorem info56 : (Try.prog.info? 56).map (fun i => (i.zero, i.size, i.bytes)) = some (some (.agg #[.int .i64 0, .int .i64 0]), 2, 16) := by kernel_rfl
theorem M_pair (W : World) (base : Nat) (ok : Nat → Prop) (p : Int × Int) : kP.M W base ok p [.int .i64 p.1, .int .i64 p.2] := ⟨[.int .i64 p.1], [.int .i64 p.2], rfl, rfl, rfl⟩
/-- One pair in a new block. -/
theorem R_new1P (W : World) (x : Int × Int) (base : Nat) (hb : base ≤ W.heap.size) : Kd.R kP 56 (W.alloc (.cells #[.int .i64 x.1, .int .i64 x.2] 56)) base (fun k => k = W.heap.size) (.slice (some ⟨W.heap.size, 0, none⟩) 1 1) [x] := by
  refine ⟨fun k hk => ?_, [.int .i64 x.1, .int .i64 x.2], ⟨by rfl, .inr ⟨W.heap.size, 1, #[.int .i64 x.1, .int .i64 x.2], rfl, hb, blk_new _ _, by simp, by decide, by simp [kP, Kd.pair, Kd.int, Kd.scalar], by simp [kP, Kd.pair, Kd.int, Kd.scalar]⟩⟩, ?_⟩
  · have : W.heap.size = k := by simpa [Value.ownBlock] using hk
    omega
  · exact (Reps.none _ _).snoc (M_pair _ _ _ x) rfl
theorem pair_at {e base n cap : Nat} {ok : Nat → Prop} {W : World} {A : Option Addr} {xs : List (Int × Int)} (h : kP.R e W base ok (.slice A n cap) xs) {i : Nat} (hi : i < xs.length) (hn : n = xs.length) :
    ∃ ad, A = some ad ∧ W.cell? (ad.add (i * 2)) = some (.int .i64 xs[i].1) ∧ W.cell? ⟨(ad.add (i * 2)).block, (ad.add (i * 2)).off + 1, none⟩ = some (.int .i64 xs[i].2) := by
  cases A with
  | none =>
    obtain ⟨A', c', he⟩ := Kd.R_slice h
    obtain ⟨_, inner, ho, _⟩ := h
    rcases ho.2 with ⟨hv, _⟩ | ⟨g, cap, cur, hv, _⟩
    · injection hv with _ h2 _; omega
    · injection hv with h2 _ _; cases h2
  | some ad =>
    refine ⟨ad, rfl, ?_⟩
    obtain ⟨c, hc, hM, hcc⟩ := Kd.R_get h (0, 0) (i : Int) (by omega) (by omega)
    rw [Int.toNat_natCast, List.getD_eq_getElem?_getD, List.getElem?_eq_getElem hi, Option.getD_some] at hM
    obtain ⟨c0, c1, rfl, h0, h1⟩ := hM
    have e0 : c0 = [.int .i64 xs[i].1] := h0
    have e1 : c1 = [.int .i64 xs[i].2] := h1
    subst e0; subst e1
    rw [Int.toNat_natCast] at hcc
    refine ⟨hcc 0 _ rfl, ?_⟩
    have h2 := hcc 1 _ rfl
    obtain ⟨_, inner, ho, _⟩ := h
    rcases ho.2 with ⟨hv, _⟩ | ⟨g, cap, cur, hv, _⟩
    · cases hv
    · injection hv with hg _ _
      injection hg with hg
      subst hg
      rw [add_at] at h2 ⊢
      exact h2

/-- A step function handed over. -/
def StepWP (g : Nat) (lb : Array Value) (D : Int × Int → Prop) (n : Nat) (step : Int × Int → Nat → (Int × Int) × Bool) (w : World) : Prop :=
  ∀ (W : World) (x : Int × Int) (e : Nat), Below w.heap.size w W → D x → e < n → Calls Try.prog g (#[.agg #[.int .i64 x.1, .int .i64 x.2], .int .i64 e] ++ lb) W fun E w' => E = .returned (.tuple #[.agg #[.int .i64 (step x e).1.1, .int .i64 (step x e).1.2], .bool (step x e).2]) ∧ Below W.heap.size W w'

/-- The rows and the queue are the call's own, apart from each other. -/
def ExEndP (n : Nat) (step : Int × Int → Nat → (Int × Int) × Bool) (start : Int × Int) (m : Nat) (w : World) (e : Ending) (w' : World) : Prop :=
  ∃ (ov qv : Value) (So Sq : Nat → Prop), e = .returned (.tuple #[ov, qv]) ∧ (∀ k, So k → ¬ Sq k) ∧ Kd.R (Kd.slice 3 (Kd.int .i64)) 25 w' w.heap.size So ov (bfsTo n step start m).1 ∧ Kd.R kP 56 w' w.heap.size Sq qv (bfsTo n step start m).2 ∧ Below w.heap.size w w'

set_option maxHeartbeats 4000000 in
set_option maxRecDepth 100000 in
theorem exploredP_calls (n : Nat) (start : Int × Int) (g : Nat) (lb : Array Value) (D : Int × Int → Prop) (step : Int × Int → Nat → (Int × Int) × Bool) (m : Nat) (w : World) (hn : n ≤ 16) (hm : m ≤ 100000) (hend : (bfsTo n step start m).2.length ≤ m)
    (hp : StepWP g lb D n step w) (h0 : D start) (hstep : ∀ x e, D x → e < n → (step x e).2 = true → D (step x e).1) (hD : ∀ x, D x → domP x)
    (eg : ∀ args w, (callFunc g args).run Try.prog w = .ok (.enter g args) w) :
    Calls Try.prog 67 #[.int .i64 n, .agg #[.int .i64 start.1, .int .i64 start.2], .func (.func g) #[] lb] w (ExEndP n step start m w) := by
  have hmm := @run_makeMap Try.prog
  have HP := Aside0.mk hp
  have HE := Aside0.mk hend
  have HS := Aside0.mk hstep
  have HD := Aside0.mk hD
  have HD0 := Aside0.mk h0
  clear hp hend hstep hD h0
  go_enter Try.func67, Try.ntmps67
  go_upto_region 1 with (fail)
  have HX0 := Aside0.mk (blk_new w (.cells #[.int .i64 start.1, .int .i64 start.2] 56))
  have HB0 := Aside0.mk (below_alloc (Below.refl w.heap.size w) (.cells #[.int .i64 start.1, .int .i64 start.2] 56))
  generalize (w.alloc (.cells #[.int .i64 start.1, .int .i64 start.2] 56)) = W0 at *
  obtain ⟨wm, hrun, HM0, hgm⟩ := MapIs.put (mapIs_new W0 encP encN domP) keyPair Try.underlying96 (HD.out _ HD0.out) 0
  have hrun' : (Instr.mapUpdate 96 (.map (some W0.heap.size)) (.agg #[.int .i64 start.1, .int .i64 start.2]) (.int .i64 0)).run Try.prog (W0.alloc (.map #[] 0)) = .ok () wm := hrun
  clear hrun
  have HXM := Aside0.mk (blk_grown (blk_alloc HX0.out (.map #[] 0)) hgm (fun e => by injection e with e; exact MapIs.ne_row (mapIs_new (ν := Nat) W0 encP encN domP) (blk_alloc HX0.out (.map #[] 0)) e))
  have hm0 : (W0.alloc (.map #[] 0)).cell? ⟨w.heap.size, 0, none⟩ = some (.int .i64 start.1) := (blk_cell (blk_alloc HX0.out (.map #[] 0)) 0).trans rfl
  have hm1 : (W0.alloc (.map #[] 0)).cell? ⟨w.heap.size, 1, none⟩ = some (.int .i64 start.2) := (blk_cell (blk_alloc HX0.out (.map #[] 0)) 1).trans rfl
  have hx0 : wm.cell? ⟨w.heap.size, 0, none⟩ = some (.int .i64 start.1) := (blk_cell HXM.out 0).trans rfl
  have hx1 : wm.cell? ⟨w.heap.size, 1, none⟩ = some (.int .i64 start.2) := (blk_cell HXM.out 1).trans rfl
  have HBM := Aside0.mk (pw_below_grown (below_alloc HB0.out (.map #[] 0)) _ (Nat.le_trans (HB0.out).size (by simp)) hgm (fun k hk => by cases hk; exact (HB0.out).size))
  have HM0 := Aside0.mk HM0
  have HMB := Aside0.mk (HB0.out).size
  clear HX0 HXM hgm
  go_wp2
  generalize W0.heap.size = MB at *
  clear hm0 hm1 hx0 hx1 hrun'
  have HB0 := Aside0.mk (below_alloc HBM.out (.cells #[.int .i64 start.1, .int .i64 start.2] 56))
  have HQ0 := Aside0.mk (R_new1P wm start w.heap.size (HBM.out).size)
  have HM1 := Aside0.mk (MapIs.below HM0.out (below_alloc (Below.refl _ _) (.cells #[.int .i64 start.1, .int .i64 start.2] 56)))
  clear HM0 HBM
  go_loopg [9, 10, 11] m (fun gg v9 v10 v11 wr => ∃ (i : Nat) (So Sq : Nat → Prop), i ≤ m ∧ m - i ≤ gg ∧ v11 = .int .i64 i ∧ Aside0 (Disj So Sq) ∧ Aside0 (Below w.heap.size w wr) ∧ Aside0 (MapIs wr MB encP encN domP (bfsTo n step start i).2.zipIdx) ∧ Aside0 (Kd.R kP 56 wr w.heap.size Sq v9 (bfsTo n step start i).2) ∧ Aside0 (Kd.R (Kd.slice 3 (Kd.int .i64)) 25 wr w.heap.size So v10 (bfsTo n step start i).1))
  case atStart =>
    exact ⟨0, fun _ => False, fun k => k = wm.heap.size, by omega, by omega, rfl, ⟨fun _ h => h.elim⟩, HB0, HM1, HQ0, ⟨Kd.R_nil _ _ _ _ _⟩⟩
  case round =>
    clear HB0 HQ0 HM1
    obtain ⟨i, So, Sq, him, hg, rfl, HDJ, HB, HM, HQ, HO⟩ := hrel
    obtain ⟨A9, c9, rfl⟩ := Kd.R_slice HQ.out
    obtain ⟨A10, c10, rfl⟩ := Kd.R_slice HO.out
    have hmono := Aside0.mk (Nat.le_trans (bfsTo_mono (n := n) (step := step) (start := start) him) HE.out)
    by_cases hlt : i < (bfsTo n step start i).2.length
    · have hltz : (i : Int) < ((bfsTo n step start i).2.length : Int) := by omega
      have HST := Aside0.mk (bfsTo_step (n := n) (step := step) (start := start) hlt)
      have hqm := Aside0.mk (Nat.le_trans (bfsTo_mono (n := n) (step := step) (start := start) (i := i + 1) (m := m) (by have := hmono.out; omega)) HE.out)
      have HXD := Aside0.mk (bfsTo_all (n := n) (D := D) HS.out HD0.out i _ (List.getElem_mem hlt))
      have HQD := Aside0.mk (bfsTo_all (n := n) (D := D) HS.out HD0.out i)
      have HXI := Aside0.mk (List.getElem?_eq_getElem hlt)
      have HOL := Aside0.mk (bfsTo_out (n := n) (step := step) (start := start) (i := i))
      generalize (bfsTo n step start i).2[i] = x at *
      rw [HST.out] at hqm
      have him2 : i + 1 ≤ m := by
        have h1 := hmono.out
        omega
      clear hmono
      generalize (bfsTo n step start i).2 = q at *
      generalize (bfsTo n step start i).1 = o at *
      go_wp2_with ((with_reducible refine gate_dst (N := 30) rfl ?_); refine Kd.R_make (Kd.int .i64) w.heap.size 3 rfl (N := 30) rfl 25 _ _ rfl (n : Int) rfl rfl Try.underlying25 (.int .i64 0) 8 info3 rfl (by decide) (by omega) 0 (ok := fun k => wr.heap.size ≤ k) (okp := fun _ => False) rfl (fun _ hk => hk.elim) (Nat.le_refl _) (by omega) (by omega) HB.out (HB.out).size ?_; intro v1 w1 hr1 hb1 hg1 hnew1)
      obtain ⟨rb, hrb, hrb2⟩ := hnew1
      obtain ⟨capr, hv1⟩ := R_formB hr1 hrb
      rw [List.length_replicate, Int.toNat_natCast] at hv1
      subst hv1
      have HR1 := Aside0.mk hr1
      have HB1 := Aside0.mk hb1
      have HM1 := Aside0.mk ((HM.out).grown hg1 (by simp))
      have HQ1 := Aside0.mk (R_stay HQ.out hg1 (by simp))
      have HO1 := Aside0.mk (R_stay HO.out hg1 (by simp))
      have HDJ1 := Aside0.mk ((HDJ.out).less wr.heap.size)
      have HDR1 := Aside0.mk (show Disj (fun k => So k ∧ k < wr.heap.size) (fun k => wr.heap.size ≤ k) from fun k ha hb => by have := ha.2; omega)
      have HDS1 := Aside0.mk (show Disj (fun k => Sq k ∧ k < wr.heap.size) (fun k => wr.heap.size ≤ k) from fun k ha hb => by have := ha.2; omega)
      clear hr1 hb1 hg1 HM HQ HO hrb hrb2 HDJ HB
      rw [Int.toNat_natCast] at HR1
      generalize (fun k => So k ∧ k < wr.heap.size) = So1 at *
      generalize (fun k => Sq k ∧ k < wr.heap.size) = Sq1 at *
      generalize (fun k => wr.heap.size ≤ k) = Sr1 at *
      go_wp2
      go_loopg [9, 32] n (fun gk v9 v32 wi => ∃ (e : Nat) (So Sq Sr : Nat → Prop), e ≤ n ∧ n - e ≤ gk ∧ v32 = .int .i64 e ∧ Aside0 (Disj So Sq) ∧ Aside0 (Disj So Sr) ∧ Aside0 (Disj Sq Sr) ∧ Aside0 (Below w.heap.size w wi) ∧
        Aside0 (MapIs wi MB encP encN domP (rowTo step x q e).2.zipIdx) ∧ Aside0 (Kd.R kP 56 wi w.heap.size Sq v9 (rowTo step x q e).2) ∧
        Aside0 (Kd.R (Kd.slice 3 (Kd.int .i64)) 25 wi w.heap.size So (.slice A10 o.length c10) o) ∧ Aside0 (Kd.R (Kd.int .i64) 3 wi w.heap.size Sr (.slice (some ⟨rb, 0, none⟩) n capr) ((rowTo step x q e).1 ++ List.replicate (n - e) 0)))
      case atStart => exact ⟨0, So1, Sq1, Sr1, by omega, by omega, rfl, HDJ1, HDR1, HDS1, HB1, HM1, HQ1, HO1, HR1⟩
      case round =>
        clear HDJ1 HDR1 HDS1 HB1 HM1 HQ1 HO1 HR1 So1 Sq1 Sr1 So Sq
        obtain ⟨e, So, Sq, Sr, hen, hgk, rfl, HDJ, HDR, HDS, HB, HM, HQ, HO, HR⟩ := hrel
        by_cases hle : e < n
        · have hlez : (e : Int) < (n : Int) := by omega
          obtain ⟨A9, c9, rfl⟩ := Kd.R_slice HQ.out
          obtain ⟨hc1, hf1⟩ := Kd.R_celln 0 HR.out (e : Int) (by omega) (by omega)
          rw [Int.toNat_natCast] at hc1 hf1
          have HPUT := Kd.R_putg HR.out (e : Int) (-1)
          rw [Int.toNat_natCast, set_next rowTo_len hle] at HPUT
          have HRB := Aside0.mk (HR.out.1 rb rfl)
          have HPUT := Aside0.mk HPUT
          go_upto_region 12 with (fail)
          clear hc1 hf1
          have HR2 := Aside0.mk (HPUT.out).1
          have hg2 := (HPUT.out).2
          have HQ2 := Aside0.mk (R_stay HQ.out hg2 (fun k hk => by cases hk; exact fun h => HDS.out _ h HRB.out))
          have HO2 := Aside0.mk (R_stay HO.out hg2 (fun k hk => by cases hk; exact fun h => HDR.out _ h HRB.out))
          have HM2 := Aside0.mk (MapIs.stay HM.out HR.out hg2)
          have HB2 := Aside0.mk (pw_below_grown HB.out _ (HB.out).size hg2 (Kd.R_base HR.out))
          have HDJ2 := Aside0.mk ((HDJ.out).less wr.heap.size)
          have HDR2 := Aside0.mk (show Disj (fun k => So k ∧ k < wr.heap.size) Sr from fun k ha hb => HDR.out k ha.1 hb)
          have HDS2 := Aside0.mk (show Disj (fun k => Sq k ∧ k < wr.heap.size) Sr from fun k ha hb => HDS.out k ha.1 hb)
          clear HPUT HR HQ HO HM HB HDJ HDR HDS hg2
          generalize (wr.setCell ⟨rb, e, none⟩ (Value.int .i64 (-1))) = w2 at *
          generalize (fun k => So k ∧ k < wr.heap.size) = So2 at *
          generalize (fun k => Sq k ∧ k < wr.heap.size) = Sq2 at *
          have hpre : ∃ h : i < (rowTo step x q e).2.length, (rowTo step x q e).2[i] = x := by
            obtain ⟨r, hr⟩ := rowTo_pre (step := step) (x := x) (q := q) (e := e)
            have hlen : i < (rowTo step x q e).2.length := by rw [hr, List.length_append]; omega
            refine ⟨hlen, ?_⟩
            have h2 : (rowTo step x q e).2[i]? = some x := by
              rw [hr, List.getElem?_append_left hlt]
              exact HXI.out
            exact (List.getElem?_eq_some_iff.1 h2).2
          obtain ⟨hpre1, hpre2⟩ := hpre
          have hprez : (i : Int) < ((rowTo step x q e).2.length : Int) := by omega
          obtain ⟨ad, e0, hxa, hxb⟩ := pair_at HQ2.out hpre1 rfl
          cases e0
          rw [hpre2] at hxa hxb
          clear hpre2
          have hcall := Aside0.mk (HP.out w2 x e HB2.out HXD.out hle)
          have HRS := Aside0.mk (show rowTo step x q (e + 1) = if (step x e).2 then ((rowTo step x q e).1 ++ [(place (step x e).1 (rowTo step x q e).2 : Int)], ins (rowTo step x q e).2 (step x e).1) else ((rowTo step x q e).1 ++ [-1], (rowTo step x q e).2) from rfl)
          have HYD := Aside0.mk (HS.out x e HXD.out hle)
          have hqlen := Aside0.mk (Nat.le_trans (rowTo_mono (step := step) (x := x) (q := q) (e := e) (e' := n) (by omega)) hqm.out)
          have hqlen1 := Aside0.mk (Nat.le_trans (rowTo_mono (step := step) (x := x) (q := q) (e := e + 1) (e' := n) (by omega)) hqm.out)
          generalize (step x e).1 = y at *
          cases hok : (step x e).2 with
          | false =>
            simp only [hok, Bool.false_eq_true, if_false] at HRS hcall
            go_wp2_with fail
            refine hcall.out.mono ?_
            rintro E w3 ⟨rfl, hb⟩
            have HB3 := Aside0.mk (below_then HB2.out (HB2.out).size hb)
            have HM3 := Aside0.mk (MapIs.below HM2.out hb)
            have HQ3 := Aside0.mk (Kd.R_below HQ2.out hb)
            have HO3 := Aside0.mk (Kd.R_below HO2.out hb)
            have HR3 := Aside0.mk (Kd.R_below HR2.out hb)
            clear hb HB2 HM2 HQ2 HO2 HR2 hcall hxa hxb
            go_upto_region 13 with (fail)
            have HBX := below_alloc (Below.refl w3.heap.size w3) (.cells #[.int .i64 y.1, .int .i64 y.2] 56)
            have HB3 := Aside0.mk (below_then HB3.out (HB3.out).size HBX)
            have HM3 := Aside0.mk (MapIs.below HM3.out HBX)
            have HQ3 := Aside0.mk (Kd.R_below HQ3.out HBX)
            have HO3 := Aside0.mk (Kd.R_below HO3.out HBX)
            have HR3 := Aside0.mk (Kd.R_below HR3.out HBX)
            clear HBX
            generalize (w3.alloc (.cells #[.int .i64 y.1, .int .i64 y.2] 56)) = w3b at *
            go_wp2
            go_roundg (n - (e + 1))
            case measure => omega
            case rel =>
              refine ⟨e + 1, So2, Sq2, Sr, by omega, by omega, by go_num, HDJ2, HDR2, HDS2, HB3, ?_, ?_, HO3, ?_⟩
              · rw [HRS.out]; exact HM3
              · rw [HRS.out]; exact HQ3
              · rw [HRS.out]; exact HR3
          | true =>
            simp only [hok, if_true] at HRS hcall
            have HY := Aside0.mk (HYD.out hok)
            clear hok HYD
            go_wp2_with fail
            refine hcall.out.mono ?_
            rintro E w3 ⟨rfl, hb⟩
            have HB3 := Aside0.mk (below_then HB2.out (HB2.out).size hb)
            have HM3 := Aside0.mk (MapIs.below HM2.out hb)
            have HQ3 := Aside0.mk (Kd.R_below HQ2.out hb)
            have HO3 := Aside0.mk (Kd.R_below HO2.out hb)
            have HR3 := Aside0.mk (Kd.R_below HR2.out hb)
            clear hb HB2 HM2 HQ2 HO2 HR2 hcall hxa hxb
            go_upto_region 13 with (fail)
            have HBX := below_alloc (Below.refl w3.heap.size w3) (.cells #[.int .i64 y.1, .int .i64 y.2] 56)
            have HYB := Aside0.mk (blk_new w3 (.cells #[.int .i64 y.1, .int .i64 y.2] 56))
            have HB3 := Aside0.mk (below_then HB3.out (HB3.out).size HBX)
            have HM3 := Aside0.mk (MapIs.below HM3.out HBX)
            have HQ3 := Aside0.mk (Kd.R_below HQ3.out HBX)
            have HO3 := Aside0.mk (Kd.R_below HO3.out HBX)
            have HR3 := Aside0.mk (Kd.R_below HR3.out HBX)
            clear HBX
            generalize (w3.alloc (.cells #[.int .i64 y.1, .int .i64 y.2] 56)) = w3b at *
            generalize w3.heap.size = yb at *
            have hy0 : w3b.cell? ⟨yb, 0, none⟩ = some (.int .i64 y.1) := (blk_cell HYB.out 0).trans rfl
            have hy1 : w3b.cell? ⟨yb, 1, none⟩ = some (.int .i64 y.2) := (blk_cell HYB.out 1).trans rfl
            have hl : (Instr.lookup 96 (.map (some MB)) (.agg #[.int .i64 y.1, .int .i64 y.2]) true).run Try.prog w3b = _ := MapIs.look HM3.out keyPair Try.underlying96 (zero3 w3b) (HD.out y HY.out) true
            rw [mget_place] at hl
            have HRB := Aside0.mk (HR3.out.1 rb rfl)
            by_cases hmem : y ∈ (rowTo step x q e).2
            · simp only [hmem, if_true] at hl
              have HRS := Aside0.mk (HRS.out.trans (by rw [ins, if_pos hmem]))
              clear hmem
              generalize (rowTo step x q e).2 = qe at *
              generalize (place y qe) = kk at *
              have HPUT := Kd.R_putg HR3.out (e : Int) (kk : Int)
              rw [Int.toNat_natCast, set_last rowTo_len] at HPUT
              obtain ⟨hc1, hf1⟩ := Kd.R_celln 0 HR3.out (e : Int) (by omega) (by omega)
              rw [Int.toNat_natCast] at hc1 hf1
              have HPUT := Aside0.mk HPUT
              unfold encN at hl
              go_wp2
              go_roundg (n - (e + 1))
              case measure => omega
              case rel =>
                have hg4 := (HPUT.out).2
                refine ⟨e + 1, fun k => So2 k ∧ k < w3b.heap.size, fun k => Sq2 k ∧ k < w3b.heap.size, Sr, by omega, by omega, by go_num, ⟨(HDJ2.out).less w3b.heap.size⟩, ⟨fun k ha hb => HDR2.out k ha.1 hb⟩, ⟨fun k ha hb => HDS2.out k ha.1 hb⟩, ⟨pw_below_grown HB3.out _ (HB3.out).size hg4 (Kd.R_base HR3.out)⟩, ?_, ?_, ⟨R_stay HO3.out hg4 (fun k hk => by cases hk; exact fun h => HDR2.out _ h HRB.out)⟩, ?_⟩
                · rw [HRS.out]; exact ⟨MapIs.stay HM3.out HR3.out hg4⟩
                · rw [HRS.out]; exact ⟨R_stay HQ3.out hg4 (fun k hk => by cases hk; exact fun h => HDS2.out _ h HRB.out)⟩
                · rw [HRS.out]; exact ⟨(HPUT.out).1⟩
            · simp only [hmem, if_false] at hl
              have HRS := Aside0.mk (HRS.out.trans (by rw [ins, if_neg hmem, place_new hmem]))
              have HNEW := Aside0.mk (mput_zip hmem)
              rw [HRS.out] at hqlen1
              clear hmem
              generalize (rowTo step x q e).2 = qe at *
              obtain ⟨w4, hput0, HM4, hg4⟩ := MapIs.put HM3.out keyPair Try.underlying96 (HD.out y HY.out) qe.length
              have hput : (Instr.mapUpdate 96 (.map (some MB)) (.agg #[.int .i64 y.1, .int .i64 y.2]) (.int .i64 (qe.length : Int))).run Try.prog w3b = .ok () w4 := hput0
              clear hput0
              have HY4 := Aside0.mk (blk_grown HYB.out hg4 (fun e => by injection e with e; exact (HM3.out).ne_row HYB.out e))
              have hz0 : w4.cell? ⟨yb, 0, none⟩ = some (.int .i64 y.1) := (blk_cell HY4.out 0).trans rfl
              have hz1 : w4.cell? ⟨yb, 1, none⟩ = some (.int .i64 y.2) := (blk_cell HY4.out 1).trans rfl
              rw [HNEW.out] at HM4
              have HM4 := Aside0.mk HM4
              have HB4 := Aside0.mk (pw_below_grown HB3.out _ (HB3.out).size hg4 (fun k hk => by cases hk; exact HMB.out))
              have hmb : ∀ {α : Type} {d : Kd α} {e base : Nat} {S : Nat → Prop} {v : Value} {xs : List α}, d.R e w3b base S v xs → d.R e w4 base (fun k => S k ∧ k < w3b.heap.size) v xs := fun h =>
                Kd.R_mono (Kd.R_step (Kd.R_bound h) (fun k hk hlt => hg4.block k hlt (fun he => by
                  cases he
                  obtain ⟨_, _, _, q, _, cells, hc⟩ := hk
                  exact (HM3.out).ne_row hc rfl))) (fun k hk => ⟨hk.1, hk.2.2.1⟩)
              have HQ4 := Aside0.mk (hmb HQ3.out)
              have HO4 := Aside0.mk (hmb HO3.out)
              have HR4 := Aside0.mk (hmb HR3.out)
              have HDJ4 := Aside0.mk ((HDJ2.out).less w3b.heap.size)
              have HDR4 := Aside0.mk ((HDR2.out).less w3b.heap.size)
              have HDS4 := Aside0.mk ((HDS2.out).less w3b.heap.size)
              have HG4 := Aside0.mk hg4
              clear hmb HM3 HQ3 HO3 HR3 HDJ2 HDR2 HDS2 hg4 HRB HB3
              rw [if_pos trivial] at hl
              generalize (fun k => So2 k ∧ k < w3b.heap.size) = So4 at *
              generalize (fun k => Sq2 k ∧ k < w3b.heap.size) = Sq4 at *
              generalize (fun k => Sr k ∧ k < w3b.heap.size) = Sr4 at *
              have hlen5 : (qe.length + 1) * 16 ≤ 140737488355328 := by
                have := hqlen1.out
                simp only [List.length_append, List.length_singleton] at this
                omega
              go_wp2_with ((with_reducible refine gate_builtin (b := .append) (xs := #[.tmp 63, .tmp 65]) rfl ?_); at_builtin; refine Kd.R_append kP (w0 := w) w.heap.size rfl (.tmp 63) (.tmp 65) 60 56 (.agg #[.int .i64 0, .int .i64 0]) 16 rfl Try.underlying60 info56 rfl (by decide) (by omega) (.slice (some ad) qe.length c9) qe y [.int .i64 y.1, .int .i64 y.2] (fun k => Sq4 k ∨ w4.heap.size ≤ k) (fun _ => False) rfl rfl (M_pair _ _ _ y) (fun _ hk => hk.elim) (fun k hk => .inr hk) (Kd.R_mono HQ4.out (fun _ hk => .inl hk)) HB4.out (HB4.out).size hlen5 ?_; intro v5 w5 ho5 hb5 hg5 hat5; have HQ5 := Aside0.mk ho5; have HB5 := Aside0.mk hb5; have HM5 := Aside0.mk (MapIs.stay HM4.out HQ4.out hg5); have HO5 := Aside0.mk (R_stay HO4.out hg5 (fun k hk h => HDJ4.out k h (HQ4.out.1 k hk))); have HR5 := Aside0.mk (R_stay HR4.out hg5 (fun k hk h => HDS4.out k (HQ4.out.1 k hk) h)); clear ho5 hb5 hg5 hat5 HQ4 HB4 HM4; (obtain ⟨hc1, hf1⟩ := Kd.R_celln 0 HR5.out (e : Int) (by omega) (by omega)); rw [Int.toNat_natCast] at hc1 hf1)
              have HPUT := Kd.R_putg HR5.out (e : Int) (qe.length : Int)
              rw [Int.toNat_natCast, set_last rowTo_len] at HPUT
              have HPUT := Aside0.mk HPUT
              have HRB := Aside0.mk (HR5.out.1 rb rfl)
              go_roundg (n - (e + 1))
              case measure => omega
              case rel =>
                have hg6 := (HPUT.out).2
                have HDR5 := (HDR4.out).less w4.heap.size
                have HDJ5 := (HDJ4.out).symm.fresh w4.heap.size
                have HDS5 := (HDS4.out).fresh w4.heap.size
                refine ⟨e + 1, _, fun k => (Sq4 k ∨ w4.heap.size ≤ k) ∧ k < w5.heap.size, _, by omega, by omega, by go_num, ⟨fun k ha hb => HDJ5 k hb.1 ha.1⟩, ⟨fun k ha hb => HDR5 k ha.1 hb⟩, ⟨fun k ha hb => HDS5 k ha.1 hb⟩, ⟨pw_below_grown HB5.out _ (HB5.out).size hg6 (Kd.R_base HR5.out)⟩, ?_, ?_, ⟨R_stay HO5.out hg6 (fun k hk => by cases hk; exact fun h => HDR5 _ h HRB.out)⟩, ?_⟩
                · rw [HRS.out]; exact ⟨MapIs.stay HM5.out HR5.out hg6⟩
                · rw [HRS.out]; exact ⟨R_stay HQ5.out hg6 (fun k hk => by cases hk; exact fun h => HDS5 _ h HRB.out)⟩
                · rw [HRS.out]; exact ⟨(HPUT.out).1⟩
        · have hlez : ¬ (e : Int) < (n : Int) := by omega
          obtain rfl : e = n := by omega
          obtain ⟨A9, c9, rfl⟩ := Kd.R_slice HQ.out
          rw [Nat.sub_self, List.replicate_zero, List.append_nil] at HR
          have hlo : (o.length + 1) * 24 ≤ 140737488355328 := by have := HOL.out; omega
          go_wp2_with ((with_reducible refine gate_builtin (b := .append) (xs := #[.tmp 72, .tmp 74]) rfl ?_); at_builtin; refine Kd.R_append (Kd.slice 3 (Kd.int .i64)) (w0 := w) w.heap.size rfl (.tmp 72) (.tmp 74) 67 25 (.slice none 0 0) 24 rfl Try.underlying67 info25 rfl (by decide) (by omega) (.slice A10 o.length c10) o (rowTo step x q e).1 [.slice (some ⟨rb, 0, none⟩) e capr] (fun k => (So k ∨ Sr k) ∨ wr.heap.size ≤ k) Sr rfl rfl ⟨_, rfl, HR.out⟩ (fun k hk => ⟨.inl (.inr hk), fun he => HDR.out k (HO.out.1 k he.symm) hk⟩) (fun k hk => .inr hk) (Kd.R_mono HO.out (fun _ hk => .inl (.inl hk))) HB.out (HB.out).size hlo ?_; intro v5 w5 ho5 hb5 hg5 hat5; have HO5 := Aside0.mk ho5; have HB5 := Aside0.mk hb5; have HM5 := Aside0.mk (MapIs.stay HM.out HO.out hg5); have HQ5 := Aside0.mk (R_stay HQ.out hg5 (fun k hk h => HDJ.out k (HO.out.1 k hk) h)); clear ho5 hb5 hg5 hat5 HO HB HM HQ HR)
          go_roundg (m - (i + 1))
          case measure => omega
          case rel =>
            refine ⟨i + 1, fun k => (So k ∨ Sr k) ∨ wr.heap.size ≤ k, fun k => Sq k ∧ k < wr.heap.size, him2, by omega, by go_num, ?_, HB5, ?_, ?_, ?_⟩
            rotate_left 1
            · rw [HST.out]; exact HM5
            · rw [HST.out]; exact HQ5
            · rw [HST.out]; exact HO5
            · refine ⟨fun k ha hb => ?_⟩
              rcases ha with (ha | ha) | ha
              · exact HDJ.out k ha hb.1
              · exact HDS.out k hb.1 ha
              · have := hb.2; omega
    · have hltz : ¬ (i : Int) < ((bfsTo n step start i).2.length : Int) := by omega
      have HFin := Aside0.mk (show bfsTo n step start m = bfsTo n step start i by
        have := bfsTo_stays (n := n) (step := step) (start := start) hlt (m - i)
        rwa [show i + (m - i) = m from by omega] at this)
      clear hmono
      generalize hq : (bfsTo n step start i) = bi at *
      clear hq
      go_wp2
      go_ret2
      refine ⟨_, _, So, Sq, rfl, HDJ.out, ?_, ?_, HB.out⟩
      · rw [HFin.out]; exact HO.out
      · rw [HFin.out]; exact HQ.out
end Go.Proofs.Ytmphigeefppfpaa.H
/- spec.product's step, and spec.product. -/
namespace Go.Proofs.Ytmphigeefppfpaa.H
open Go.RowKit Go.Proofs.YtmphigeefppfpaaW.PrintWords Go.Proofs.YtmphigeefppfpaaW.PrintLast Go.Proofs.YtmphigeefppfpaaW.PrintMore
set_option linter.unusedVariables false

/-- The state behind an event, or -1. -/
def nextB (l : List (List Int)) (q e : Int) : Int := if q < 0 then -1 else stepAt l q e
def domN (l : List (List Int)) (q : Int) : Prop := -1 ≤ q ∧ q < (l.length : Int)
theorem nextB_dom {ev st : Int} {l : List (List Int)} (hs : specOk ev st l = true) {q e : Int} (hq : domN l q) (h0 : 0 ≤ e) (h1 : e < ev) : domN l (nextB l q e) := by
  unfold nextB
  split
  · exact ⟨by omega, by have := (spec_table hs).2.2.2.2.1; omega⟩
  · exact stepAt_range hs (by omega) hq.2 h0 h1
theorem next_val {ev st : Int} {l : List (List Int)} (hs : specOk ev st l = true) {q e : Int} (hq : domN l q) (h0 : 0 ≤ e) (h1 : e < ev) : Q.spec_next.f ev st l q e = some (nextB l q e) := by
  unfold Q.spec_next.f nextB stepAt
  by_cases hn : q < 0
  · rw [if_pos hn, if_pos hn]
  · have hl := (specOk_row hs (q := q) (by omega) hq.2).1
    rw [if_neg hn, if_neg hn, if_pos (by omega), if_pos hq.2, if_pos h0, if_pos (by omega)]
theorem next_calls {ev st : Int} {l : List (List Int)} (hs : specOk ev st l = true) {q e : Int} (hq : domN l q) (h0 : 0 ≤ e) (h1 : e < ev) (A : Option Addr) (c : Nat) (w : World) (hr : Kd.C (Kd.slice 3 (Kd.int .i64)) w A l.length l) (hc : l.length ≤ c) :
    Calls Try.prog 44 #[.agg #[.int .i64 ev, .int .i64 st, .slice A l.length c], .int .i64 q, .int .i64 e] w fun E w' => E = .returned (.int .i64 (nextB l q e)) ∧ Below w.heap.size w w' :=
  Q.spec_next.calls ev st A c l q e _ w hr hc (next_val hs hq h0 h1)
def MayW (g : Nat) (may : Int → Int → Bool) : Prop := ∀ W x y, Calls Try.prog g #[.int .i64 x, .int .i64 y] W fun E w' => E = .returned (.bool (may x y)) ∧ Below W.heap.size W w'
/-- The boxes that the step captures. -/
structure PB (w W : World) (ba bb bf g : Nat) (va vb : Array Value) (x : Int × Int) : Prop where
  hb : Below w.heap.size w W
  ha : W.heap[ba]? = some (.cells va 24 (0, 0))
  hbb : W.heap[bb]? = some (.cells vb 24 (0, 0))
  hf : W.heap[bf]? = some (.cells #[.func (.func g) #[] #[]] 71 (0, 0))
  hx : W.heap[w.heap.size]? = some (.cells #[.int .i64 x.1, .int .i64 x.2] 56 (0, 0))
  hr : W.heap[w.heap.size + 1]? = some (.cells #[.int .i64 0, .int .i64 0] 56 (0, 0))
section
variable {w W W1 : World} {ba bb bf g : Nat} {va vb : Array Value} {x : Int × Int} {a b c d e f : Value}
theorem PB.below (h : PB w W ba bb bf g va vb x) (hb : Below W.heap.size W W1) : PB w W1 ba bb bf g va vb x := ⟨below_then h.hb h.hb.size hb, blk_below h.ha hb, blk_below h.hbb hb, blk_below h.hf hb, blk_below h.hx hb, blk_below h.hr hb⟩
theorem PB.top (h : PB w W ba bb bf g va vb x) : w.heap.size + 1 < W.heap.size := (Array.getElem?_eq_some_iff.1 h.hr).1
/-- The new pair is written into a box of the call's own. -/
theorem PB.put2 {b9 : Nat} {cells : Array Value} (h : PB w W ba bb bf g va vb x) (h9 : W.heap[b9]? = some (.cells cells 56 (0, 0))) (hb9 : w.heap.size + 1 < b9) (u v : Value) : PB w ((W.setCell ⟨b9, 0, none⟩ u).setCell ⟨b9, 1, none⟩ v) ba bb bf g va vb x := by
  have g1 := grown_setCell W ⟨b9, 0, none⟩ u
  have g2 := grown_setCell (W.setCell ⟨b9, 0, none⟩ u) ⟨b9, 1, none⟩ v
  have hne : ∀ {k : Nat} {cs : Array Value} {T : TypeId}, W.heap[k]? = some (.cells cs T (0, 0)) → T ≠ 56 → some k ≠ some b9 := fun hk hT e => by injection e with e; exact blk_ne hk h9 hT e
  have hn1 : some w.heap.size ≠ some b9 := fun e => by injection e with e; omega
  have hn2 : some (w.heap.size + 1) ≠ some b9 := fun e => by injection e with e; omega
  exact ⟨pw_below_grown (pw_below_grown h.hb _ h.hb.size g1 (fun k hk => by cases hk; show w.heap.size ≤ b9; omega)) _ (Nat.le_trans h.hb.size g1.size) g2 (fun k hk => by cases hk; show w.heap.size ≤ b9; omega),
    blk_grown (blk_grown h.ha g1 (hne h.ha (by decide))) g2 (hne h.ha (by decide)), blk_grown (blk_grown h.hbb g1 (hne h.hbb (by decide))) g2 (hne h.hbb (by decide)), blk_grown (blk_grown h.hf g1 (hne h.hf (by decide))) g2 (hne h.hf (by decide)), blk_grown (blk_grown h.hx g1 hn1) g2 hn1, blk_grown (blk_grown h.hr g1 hn2) g2 hn2⟩
theorem PB.pairc {b9 : Nat} (h : PB w W ba bb bf g va vb x) (h9 : W.heap[b9]? = some (.cells #[a, b] 56 (0, 0))) : (W.cell? ⟨b9, 0, none⟩ = some a ∧ W.cell? ⟨b9, 1, none⟩ = some b) ∧ W.cell? ⟨bf, 0, none⟩ = some (.func (.func g) #[] #[]) :=
  ⟨⟨(blk_cell h9 0).trans rfl, (blk_cell h9 1).trans rfl⟩, (blk_cell h.hf 0).trans rfl⟩
/-- The pair is written into the box that goes out. -/
def outP (w W : World) (u v : Value) : World := (W.setCell ⟨w.heap.size + 1, 0, none⟩ u).setCell ⟨w.heap.size + 1, 1, none⟩ v
theorem PB.pairo {b9 : Nat} (h : PB w W ba bb bf g va vb x) (h9 : W.heap[b9]? = some (.cells #[a, b] 56 (0, 0))) (hb9 : w.heap.size + 1 < b9) (u v : Value) : ((outP w W u v).cell? ⟨b9, 0, none⟩ = some a ∧ (outP w W u v).cell? ⟨b9, 1, none⟩ = some b) ∧ (outP w W u v).cell? ⟨bf, 0, none⟩ = some (.func (.func g) #[] #[]) := by
  have g1 := grown_setCell W ⟨w.heap.size + 1, 0, none⟩ u
  have g2 := grown_setCell (W.setCell ⟨w.heap.size + 1, 0, none⟩ u) ⟨w.heap.size + 1, 1, none⟩ v
  have n9 : some b9 ≠ some (w.heap.size + 1) := fun e => by injection e with e; omega
  have nf : some bf ≠ some (w.heap.size + 1) := fun e => by injection e with e; exact blk_ne h.hf h.hr (by decide) e
  have k9 := blk_grown (blk_grown h9 g1 n9) g2 n9
  have kf := blk_grown (blk_grown h.hf g1 nf) g2 nf
  exact ⟨⟨(blk_cell k9 0).trans rfl, (blk_cell k9 1).trans rfl⟩, (blk_cell kf 0).trans rfl⟩
theorem PB.out (h : PB w W ba bb bf g va vb x) (u v : Value) : (outP w W u v).heap[w.heap.size + 1]? = some (.cells #[u, v] 56 (0, 0)) ∧ Below w.heap.size w (outP w W u v) := by
  have g1 := grown_setCell W ⟨w.heap.size + 1, 0, none⟩ u
  have g2 := grown_setCell (W.setCell ⟨w.heap.size + 1, 0, none⟩ u) ⟨w.heap.size + 1, 1, none⟩ v
  exact ⟨blk_set (blk_set h.hr 0 u) 1 v, pw_below_grown (pw_below_grown h.hb _ h.hb.size g1 (fun k hk => by cases hk; exact Nat.le_succ _)) _ (Nat.le_trans h.hb.size g1.size) g2 (fun k hk => by cases hk; exact Nat.le_succ _)⟩
def PBc (w W : World) (ba bb bf g : Nat) (a b c d e f : Value) (x : Int × Int) : Prop := ((W.cell? ⟨ba, 0, none⟩ = some a ∧ W.cell? ⟨ba, 1, none⟩ = some b ∧ W.cell? ⟨ba, 2, none⟩ = some c) ∧ (W.cell? ⟨bb, 0, none⟩ = some d ∧ W.cell? ⟨bb, 1, none⟩ = some e ∧ W.cell? ⟨bb, 2, none⟩ = some f)) ∧ (W.cell? ⟨w.heap.size, 0, none⟩ = some (.int .i64 x.1) ∧ W.cell? ⟨w.heap.size, 1, none⟩ = some (.int .i64 x.2)) ∧ W.cell? ⟨bf, 0, none⟩ = some (.func (.func g) #[] #[])
theorem PB.cells (h : PB w W ba bb bf g #[a, b, c] #[d, e, f] x) : ((W.cell? ⟨ba, 0, none⟩ = some a ∧ W.cell? ⟨ba, 1, none⟩ = some b ∧ W.cell? ⟨ba, 2, none⟩ = some c) ∧ (W.cell? ⟨bb, 0, none⟩ = some d ∧ W.cell? ⟨bb, 1, none⟩ = some e ∧ W.cell? ⟨bb, 2, none⟩ = some f)) ∧ (W.cell? ⟨w.heap.size, 0, none⟩ = some (.int .i64 x.1) ∧ W.cell? ⟨w.heap.size, 1, none⟩ = some (.int .i64 x.2)) :=
  ⟨⟨⟨(blk_cell h.ha 0).trans rfl, (blk_cell h.ha 1).trans rfl, (blk_cell h.ha 2).trans rfl⟩, (blk_cell h.hbb 0).trans rfl, (blk_cell h.hbb 1).trans rfl, (blk_cell h.hbb 2).trans rfl⟩, (blk_cell h.hx 0).trans rfl, (blk_cell h.hx 1).trans rfl⟩
end

set_option maxHeartbeats 4000000 in
theorem step_calls (g : Nat) (may : Int → Int → Bool) (hm : MayW g may) (ev sa sb : Int) (A B : Option Addr) (ca cb : Nat) (la lb : List (List Int)) (ba bb bf : Nat) (x : Int × Int) (e : Nat) (w : World)
    (hsa : specOk ev sa la = true) (hsb : specOk ev sb lb = true) (hx : domN la x.1 ∧ domN lb x.2) (he : (e : Int) < ev)
    (ha : w.heap[ba]? = some (.cells #[.int .i64 ev, .int .i64 sa, .slice A la.length ca] 24 (0, 0))) (hb : w.heap[bb]? = some (.cells #[.int .i64 ev, .int .i64 sb, .slice B lb.length cb] 24 (0, 0))) (hf : w.heap[bf]? = some (.cells #[.func (.func g) #[] #[]] 71 (0, 0)))
    (hra : Kd.C (Kd.slice 3 (Kd.int .i64)) w A la.length la) (hca : la.length ≤ ca) (hrb : Kd.C (Kd.slice 3 (Kd.int .i64)) w B lb.length lb) (hcb : lb.length ≤ cb)
    (eg : ∀ args w, (callFunc g args).run Try.prog w = .ok (.enter g args) w) :
    Calls Try.prog 68 #[.agg #[.int .i64 x.1, .int .i64 x.2], .int .i64 e, .pointer (some ⟨ba, 0, none⟩), .pointer (some ⟨bb, 0, none⟩), .pointer (some ⟨bf, 0, none⟩)] w fun E w' =>
      E = .returned (.tuple #[.agg #[.int .i64 (nextB la x.1 e), .int .i64 (nextB lb x.2 e)], .bool (may (nextB la x.1 e) (nextB lb x.2 e))]) ∧ Below w.heap.size w w' := by
  have H1 := Aside0.mk fun W (hW : Below w.heap.size w W) => next_calls hsa hx.1 (Int.natCast_nonneg e) he A ca W (Kd.C_below hra hW) hca
  have H2 := Aside0.mk fun W (hW : Below w.heap.size w W) => next_calls hsb hx.2 (Int.natCast_nonneg e) he B cb W (Kd.C_below hrb hW) hcb
  have H3 := Aside0.mk (show ∀ W x y, Calls Try.prog g #[.int .i64 x, .int .i64 y] W fun E w' => E = .returned (.bool (may x y)) ∧ Below W.heap.size W w' from hm)
  have HS0 := Aside0.mk (PB.mk (w := w) (W := (w.alloc (.cells #[.int .i64 x.1, .int .i64 x.2] 56)).alloc (.cells #[.int .i64 0, .int .i64 0] 56)) (x := x) (below_alloc (below_alloc (Below.refl _ _) _) _) (blk_alloc (blk_alloc ha _) _) (blk_alloc (blk_alloc hb _) _) (blk_alloc (blk_alloc hf _) _) (blk_alloc (blk_new _ _) _) (blk_at2 _ _ _))
  clear hsa hsb hx he ha hb hf hra hca hrb hcb hm
  generalize nextB la x.1 e = y1 at *
  generalize nextB lb x.2 e = y2 at *
  go_enter Try.func68, Try.ntmps68
  go_upto_region 1 with (fail)
  generalize ((w.alloc (.cells #[.int .i64 x.1, .int .i64 x.2] 56)).alloc (.cells #[.int .i64 0, .int .i64 0] 56)) = w0 at *
  have HS := (HS0.out).below (W1 := w0.drew) (below_drew (Below.refl _ _))
  go_region_held3 (fun w' => ((w'.cell? ⟨ba, 0, none⟩ = some (.int .i64 ev) ∧ w'.cell? ⟨ba, 1, none⟩ = some (.int .i64 sa) ∧ w'.cell? ⟨ba, 2, none⟩ = some (.slice A la.length ca)) ∧ (w'.cell? ⟨bb, 0, none⟩ = some (.int .i64 ev) ∧ w'.cell? ⟨bb, 1, none⟩ = some (.int .i64 sb) ∧ w'.cell? ⟨bb, 2, none⟩ = some (.slice B lb.length cb))) ∧ (w'.cell? ⟨w.heap.size, 0, none⟩ = some (.int .i64 x.1) ∧ w'.cell? ⟨w.heap.size, 1, none⟩ = some (.int .i64 x.2)))
    (first | exact HS.cells | exact HS1.cells | exact HS2.cells | exact PB.cells (HS2.put2 HN2 HT _ _) | exact PB.cells (PB.below HS0.out (below_drew (below_alloc (Below.refl w0.heap.size w0) (.cells #[.int .i64 0, .int .i64 0] 56)))) | exact PB.cells (PB.below HS1 (below_alloc (Below.refl _ _) _)) | exact PB.cells (PB.below HS2 (below_alloc (Below.refl _ _) _)) | fail)
    (first
      | (go_at_call 44; (first | (with_reducible refine (H1.out _ HS.hb).mono ?_) | (have HN : ((w0.alloc (.cells #[.int .i64 0, .int .i64 0] 56)).drew).heap[w0.heap.size]? = some (.cells #[.int .i64 0, .int .i64 0] 56 (0, 0)) := blk_drew (blk_new w0 _); have HT : w.heap.size + 1 < w0.heap.size := (HS0.out).top; have HS := (HS0.out).below (below_drew (below_alloc (Below.refl w0.heap.size w0) (.cells #[.int .i64 0, .int .i64 0] 56))); with_reducible refine (H1.out _ HS.hb).mono ?_)); rintro E w1 ⟨rfl, hb⟩; have HS1 := HS.below hb; (try have HN1 := blk_below HN hb); clear hb; (try clear HN); clear HS)
      | (go_at_call 44; (first | (with_reducible refine (H2.out _ HS1.hb).mono ?_) | (have HN1 : (w1.alloc (.cells #[.int .i64 0, .int .i64 0] 56)).heap[w1.heap.size]? = some (.cells #[.int .i64 0, .int .i64 0] 56 (0, 0)) := blk_new w1 _; have HT : w.heap.size + 1 < w1.heap.size := HS1.top; have HS1 := HS1.below (below_alloc (Below.refl _ _) (.cells #[.int .i64 0, .int .i64 0] 56)); with_reducible refine (H2.out _ HS1.hb).mono ?_)); rintro E w2 ⟨rfl, hb⟩; have HS2 := HS1.below hb; (try have HN2 := blk_below HN1 hb); clear hb; (try clear HN1); clear HS1; (try (have hk0 := (blk_cell HN2 0).trans rfl; have hk1 := (blk_cell HN2 1).trans rfl; have hf0 := blk_frozen HN2 0; have hf1 := blk_frozen HN2 1)))
      | fail)
  all_goals clear H1 H2 HS0
  · have HY := Aside0.mk (blk_new w2 (.cells #[.int .i64 y1, .int .i64 y2] 56))
    have HS3 := HS2.below (below_alloc (Below.refl w2.heap.size w2) (.cells #[.int .i64 y1, .int .i64 y2] 56))
    have HT := HS2.top
    clear HS2
    generalize (w2.alloc (.cells #[.int .i64 y1, .int .i64 y2] 56)) = w3 at *
    generalize w2.heap.size = b9 at *
    have HS4 := HS3.below (W1 := w3.drew) (below_drew (Below.refl _ _))
    have HY4 := blk_drew HY.out
    clear HS3 HY
    go_wp2
    go_region_held3 (fun w' => (w'.cell? ⟨b9, 0, none⟩ = some (.int .i64 y1) ∧ w'.cell? ⟨b9, 1, none⟩ = some (.int .i64 y2)) ∧ w'.cell? ⟨bf, 0, none⟩ = some (.func (.func g) #[] #[]))
      (first | exact PB.pairc HS4 HY4 | exact PB.pairc HS5 HY5 | exact PB.pairo HS5 HY5 HT _ _ | fail)
      (first | ((with_reducible refine (H3.out _ _ _).mono ?_); rintro E w4 ⟨rfl, hb⟩; have HS5 := HS4.below hb; have HY5 := blk_below HY4 hb; have hk0 := (blk_cell HS5.hr 0).trans rfl; have hk1 := (blk_cell HS5.hr 1).trans rfl; have hf0 := blk_frozen HS5.hr 0; have hf1 := blk_frozen HS5.hr 1; clear hb HS4 HY4) | fail)
    clear hk0 hk1 hf0 hf1
    obtain ⟨hblk, hbl⟩ := HS5.out (.int .i64 y1) (.int .i64 y2)
    unfold outP at hblk hbl
    go_wp2
    refine bodyPost_ret (results_row_tmp rfl _ _ (w.heap.size + 1) 56 #[.int .i64 y1, .int .i64 y2] (0, 0) _ rfl hblk Try.underlying56 rfl (by kernel_rfl)) rfl ?_
    exact ⟨rfl, hbl⟩
  · have HY := Aside0.mk (show ((w2.setCell ⟨w1.heap.size, 0, none⟩ (.int .i64 y1)).setCell ⟨w1.heap.size, 1, none⟩ (.int .i64 y2)).heap[w1.heap.size]? = some (.cells #[.int .i64 y1, .int .i64 y2] 56 (0, 0)) from blk_set (blk_set HN2 0 (.int .i64 y1)) 1 (.int .i64 y2))
    have HS3 := HS2.put2 HN2 HT (.int .i64 y1) (.int .i64 y2)
    clear HS2 HN2 hk0 hk1 hf0 hf1
    generalize ((w2.setCell ⟨w1.heap.size, 0, none⟩ (.int .i64 y1)).setCell ⟨w1.heap.size, 1, none⟩ (.int .i64 y2)) = w3 at *
    generalize w1.heap.size = b9 at *
    have HS4 := HS3.below (W1 := w3.drew) (below_drew (Below.refl _ _))
    have HY4 := blk_drew HY.out
    clear HS3 HY
    go_wp2
    go_region_held3 (fun w' => (w'.cell? ⟨b9, 0, none⟩ = some (.int .i64 y1) ∧ w'.cell? ⟨b9, 1, none⟩ = some (.int .i64 y2)) ∧ w'.cell? ⟨bf, 0, none⟩ = some (.func (.func g) #[] #[]))
      (first | exact PB.pairc HS4 HY4 | exact PB.pairc HS5 HY5 | exact PB.pairo HS5 HY5 HT _ _ | fail)
      (first | ((with_reducible refine (H3.out _ _ _).mono ?_); rintro E w4 ⟨rfl, hb⟩; have HS5 := HS4.below hb; have HY5 := blk_below HY4 hb; have hk0 := (blk_cell HS5.hr 0).trans rfl; have hk1 := (blk_cell HS5.hr 1).trans rfl; have hf0 := blk_frozen HS5.hr 0; have hf1 := blk_frozen HS5.hr 1; clear hb HS4 HY4) | fail)
    clear hk0 hk1 hf0 hf1
    obtain ⟨hblk, hbl⟩ := HS5.out (.int .i64 y1) (.int .i64 y2)
    unfold outP at hblk hbl
    go_wp2
    refine bodyPost_ret (results_row_tmp rfl _ _ (w.heap.size + 1) 56 #[.int .i64 y1, .int .i64 y2] (0, 0) _ rfl hblk Try.underlying56 rfl (by kernel_rfl)) rfl ?_
    exact ⟨rfl, hbl⟩
  · have HY := Aside0.mk (show ((w2.setCell ⟨w0.heap.size, 0, none⟩ (.int .i64 y1)).setCell ⟨w0.heap.size, 1, none⟩ (.int .i64 y2)).heap[w0.heap.size]? = some (.cells #[.int .i64 y1, .int .i64 y2] 56 (0, 0)) from blk_set (blk_set HN2 0 (.int .i64 y1)) 1 (.int .i64 y2))
    have HS3 := HS2.put2 HN2 HT (.int .i64 y1) (.int .i64 y2)
    clear HS2 HN2 hk0 hk1 hf0 hf1
    generalize ((w2.setCell ⟨w0.heap.size, 0, none⟩ (.int .i64 y1)).setCell ⟨w0.heap.size, 1, none⟩ (.int .i64 y2)) = w3 at *
    generalize w0.heap.size = b9 at *
    have HS4 := HS3.below (W1 := w3.drew) (below_drew (Below.refl _ _))
    have HY4 := blk_drew HY.out
    clear HS3 HY
    go_wp2
    go_region_held3 (fun w' => (w'.cell? ⟨b9, 0, none⟩ = some (.int .i64 y1) ∧ w'.cell? ⟨b9, 1, none⟩ = some (.int .i64 y2)) ∧ w'.cell? ⟨bf, 0, none⟩ = some (.func (.func g) #[] #[]))
      (first | exact PB.pairc HS4 HY4 | exact PB.pairc HS5 HY5 | exact PB.pairo HS5 HY5 HT _ _ | fail)
      (first | ((with_reducible refine (H3.out _ _ _).mono ?_); rintro E w4 ⟨rfl, hb⟩; have HS5 := HS4.below hb; have HY5 := blk_below HY4 hb; have hk0 := (blk_cell HS5.hr 0).trans rfl; have hk1 := (blk_cell HS5.hr 1).trans rfl; have hf0 := blk_frozen HS5.hr 0; have hf1 := blk_frozen HS5.hr 1; clear hb HS4 HY4) | fail)
    clear hk0 hk1 hf0 hf1
    obtain ⟨hblk, hbl⟩ := HS5.out (.int .i64 y1) (.int .i64 y2)
    unfold outP at hblk hbl
    go_wp2
    refine bodyPost_ret (results_row_tmp rfl _ _ (w.heap.size + 1) 56 #[.int .i64 y1, .int .i64 y2] (0, 0) _ rfl hblk Try.underlying56 rfl (by kernel_rfl)) rfl ?_
    exact ⟨rfl, hbl⟩
end Go.Proofs.Ytmphigeefppfpaa.H
/- spec.pair, spec.product, Both, Any. -/
namespace Go.Proofs.Ytmphigeefppfpaa.H
open Go.RowKit Go.Proofs.YtmphigeefppfpaaW.PrintWords Go.Proofs.YtmphigeefppfpaaW.PrintLast Go.Proofs.YtmphigeefppfpaaW.PrintMore
set_option linter.unusedVariables false

/-! ### tables of any states -/
section
variable {α : Type} [DecidableEq α] {n N : Nat} {step : α → Nat → α × Bool} {start : α}
theorem table_lq' (h : (bfsTo n step start N).2.length ≤ N) {i : Nat} {x : α} (hx : (bfsTo n step start N).2[i]? = some x) : Lq n (stepS (bfsTo n step start N).1) step (i : Int) x := by
  obtain ⟨hl, _, hrow⟩ := bfs_done h
  refine Lq.of_rel (fun a x => ∃ i : Nat, a = (i : Int) ∧ (bfsTo n step start N).2[i]? = some x) ?_ ⟨i, rfl, hx⟩
  rintro a x e ⟨i, rfl, hi⟩ he
  obtain ⟨h1, h2⟩ := hrow i x hi
  have h3 := h2 e he
  have h4 : (stepS (bfsTo n step start N).1 (i : Int) e) = (((bfsTo n step start N).1.getD i []).getD e 0, decide (((bfsTo n step start N).1.getD i []).getD e 0 ≥ 0)) := by
    simp [stepS, stepAt, rd, Q.rd_L1]
  rw [h4]
  unfold Right at h3
  by_cases ho : (step x e).2 = true
  · rw [if_pos ho] at h3
    refine ⟨by rw [h3.2, ho]; simp, fun _ => ⟨place (step x e).1 (bfsTo n step start N).2, h3.2, ?_⟩⟩
    rw [List.getElem?_eq_getElem (place_mem.1 h3.1)]
    congr 1
    exact List.getElem_idxOf (place_mem.1 h3.1)
  · rw [if_neg ho] at h3
    have ho' : (step x e).2 = false := by simpa using ho
    refine ⟨by rw [h3, ho']; decide, fun h => ?_⟩
    rw [h3] at h
    simp at h
theorem table_ok' (h : (bfsTo n step start N).2.length ≤ N) : graphOk n (bfsTo n step start N).1 ∧ 1 ≤ (bfsTo n step start N).1.length ∧ (bfsTo n step start N).1.length ≤ N := by
  obtain ⟨hl, ⟨r, hr⟩, hrow⟩ := bfs_done h
  refine ⟨fun row hm => ?_, by rw [hl, hr]; simp, by omega⟩
  obtain ⟨i, hi, rfl⟩ := List.getElem_of_mem hm
  have hi2 : i < (bfsTo n step start N).2.length := by omega
  obtain ⟨h1, h2⟩ := hrow i _ (List.getElem?_eq_getElem hi2)
  rw [List.getD_eq_getElem?_getD, List.getElem?_eq_getElem hi] at h1 h2
  simp only [Option.getD_some] at h1 h2
  refine ⟨h1, fun v hv => ?_⟩
  obtain ⟨e, he, rfl⟩ := List.getElem_of_mem hv
  have h3 := h2 e (by omega)
  rw [List.getD_eq_getElem?_getD, List.getElem?_eq_getElem he] at h3
  simp only [Option.getD_some] at h3
  unfold Right at h3
  split at h3
  · have := place_mem.1 h3.1
    omega
  · omega
end

/-! ### pairs of states -/
def stepQ (la lb : List (List Int)) (may : Int → Int → Bool) (x : Int × Int) (e : Nat) : (Int × Int) × Bool := ((nextB la x.1 e, nextB lb x.2 e), may (nextB la x.1 e) (nextB lb x.2 e))
def pairs (la lb : List (List Int)) : Nat := (la.length + 1) * (lb.length + 1)
def domQ (la lb : List (List Int)) (x : Int × Int) : Prop := domN la x.1 ∧ domN lb x.2
theorem code_lt {a b u v : Nat} (ha : a < u) (hb : b < v) : a * v + b < u * v := by
  calc a * v + b < a * v + v := by omega
    _ = (a + 1) * v := by rw [Nat.add_mul, Nat.one_mul]
    _ ≤ u * v := Nat.mul_le_mul_right _ ha
theorem code_inj {a b a' b' v : Nat} (hb : b < v) (hb' : b' < v) (h : a * v + b = a' * v + b') : a = a' ∧ b = b' := by
  have h1 : (a * v + b) / v = a := by rw [Nat.mul_comm, Nat.mul_add_div (by omega), Nat.div_eq_of_lt hb, Nat.add_zero]
  have h2 : (a' * v + b') / v = a' := by rw [Nat.mul_comm, Nat.mul_add_div (by omega), Nat.div_eq_of_lt hb', Nat.add_zero]
  have h3 : a = a' := by rw [← h1, ← h2, h]
  subst h3
  exact ⟨rfl, by omega⟩
theorem bfs_pairs {n : Nat} {la lb : List (List Int)} {step : Int × Int → Nat → (Int × Int) × Bool} {start : Int × Int} (hstep : ∀ x e, domQ la lb x → e < n → (step x e).2 = true → domQ la lb (step x e).1) (h0 : domQ la lb start) (m : Nat) : (bfsTo n step start m).2.length ≤ pairs la lb := by
  have hD := bfsTo_all (n := n) hstep h0 m
  have hN := bfsTo_nodup (n := n) (step := step) (start := start) m
  let f : Int × Int → Nat := fun x => (x.1 + 1).toNat * (lb.length + 1) + (x.2 + 1).toNat
  have h2 : ((bfsTo n step start m).2.map f).Nodup := by
    refine List.Pairwise.map _ ?_ (List.Pairwise.imp_of_mem (R := fun a b => a ≠ b) (S := fun a b => f a ≠ f b) ?_ hN)
    · exact fun a b h => h
    · intro a b ha hb hne he
      obtain ⟨⟨a1, a2⟩, a3, a4⟩ := hD a ha
      obtain ⟨⟨b1, b2⟩, b3, b4⟩ := hD b hb
      obtain ⟨e1, e2⟩ := code_inj (by omega) (by omega) he
      exact hne (Prod.ext (by omega) (by omega))
  have h3 := h2.length_le_of_subset (l₂ := List.range (pairs la lb)) (fun x hx => by
    obtain ⟨a, ha, rfl⟩ := List.mem_map.1 hx
    obtain ⟨⟨a1, a2⟩, a3, a4⟩ := hD a ha
    exact List.mem_range.2 (code_lt (by omega) (by omega)))
  simpa using h3
theorem stepQ_dom {ev sa sb : Int} {la lb : List (List Int)} {may : Int → Int → Bool} (ha : specOk ev sa la = true) (hb : specOk ev sb lb = true) (x : Int × Int) (e : Nat) (hx : domQ la lb x) (he : e < ev.toNat) (_ : (stepQ la lb may x e).2 = true) : domQ la lb (stepQ la lb may x e).1 :=
  ⟨nextB_dom ha hx.1 (by omega) (by omega), nextB_dom hb hx.2 (by omega) (by omega)⟩
def prodB (ev sa sb : Int) (la lb : List (List Int)) (may : Int → Int → Bool) : List (List Int) × List (Int × Int) := bfsTo ev.toNat (stepQ la lb may) (sa, sb) (pairs la lb)
theorem spec_domN {ev st : Int} {l : List (List Int)} (h : specOk ev st l = true) : domN l st := by
  have := (spec_table h).2.1
  exact ⟨by have := this.1; omega, this.2⟩
theorem prod_fin {ev sa sb : Int} {la lb : List (List Int)} {may : Int → Int → Bool} (ha : specOk ev sa la = true) (hb : specOk ev sb lb = true) (m : Nat) : (bfsTo ev.toNat (stepQ la lb may) (sa, sb) m).2.length ≤ pairs la lb :=
  bfs_pairs (stepQ_dom ha hb) ⟨spec_domN ha, spec_domN hb⟩ m
theorem pairs_le {ev sa sb : Int} {la lb : List (List Int)} (ha : specOk ev sa la = true) (hb : specOk ev sb lb = true) : pairs la lb ≤ 4225 := by
  have h1 := (spec_table ha).2.2.2.2.2
  have h2 := (spec_table hb).2.2.2.2.2
  exact Nat.le_trans (Nat.mul_le_mul (Nat.succ_le_succ h1) (Nat.succ_le_succ h2)) (by decide)
noncomputable def prodRows (ev sa sb : Int) (la lb : List (List Int)) (may : Int → Int → Bool) : List (List Int) := rleastOf ev.toNat (prodB ev sa sb la lb may).1 0
/-! ### the answers -/
def pairVal (ea sa : Int) (la : List (List Int)) (eb sb : Int) (lb : List (List Int)) : Int := if specOk ea sa la then (if specOk eb sb lb then (if ea = eb then 0 else 2) else 11) else 11
noncomputable def pErr (may : Int → Int → Bool) (ea sa : Int) (la : List (List Int)) (eb sb : Int) (lb : List (List Int)) : Int := if pairVal ea sa la eb sb lb = 0 then (if 64 < (prodRows ea sa sb la lb may).length then 3 else 0) else pairVal ea sa la eb sb lb
noncomputable def pEv (may : Int → Int → Bool) (ea sa : Int) (la : List (List Int)) (eb sb : Int) (lb : List (List Int)) : Int := if pErr may ea sa la eb sb lb = 0 then ea else 0
noncomputable def pRows (may : Int → Int → Bool) (ea sa : Int) (la : List (List Int)) (eb sb : Int) (lb : List (List Int)) : List (List Int) := if pErr may ea sa la eb sb lb = 0 then prodRows ea sa sb la lb may else []
noncomputable def ProdEnd (may : Int → Int → Bool) (ea sa : Int) (la : List (List Int)) (eb sb : Int) (lb : List (List Int)) : World → Ending → World → Prop := SpecEnd (pErr may ea sa la eb sb lb) (pEv may ea sa la eb sb lb) 0 (pRows may ea sa la eb sb lb)
theorem pairVal_zero {ea sa : Int} {la : List (List Int)} {eb sb : Int} {lb : List (List Int)} (h : pairVal ea sa la eb sb lb = 0) : specOk ea sa la = true ∧ specOk eb sb lb = true ∧ ea = eb := by
  unfold pairVal at h
  split at h
  · split at h
    · split at h
      · exact ⟨by assumption, by assumption, by assumption⟩
      · simp at h
    · simp at h
  · simp at h

theorem two3_begin (w : World) (x y : Array Value) : two3 w ((w.alloc (.cells x 24)).alloc (.cells y 24)) x y := ⟨⟨below_alloc (below_alloc (Below.refl _ _) _) _⟩, ⟨blk_alloc (blk_new w (.cells x 24)) (.cells y 24)⟩, ⟨blk_at2 w (.cells x 24) (.cells y 24)⟩⟩
set_option maxHeartbeats 1000000 in
theorem pair_calls (ea sa : Int) (A : Option Addr) (ca : Nat) (la : List (List Int)) (eb sb : Int) (B : Option Addr) (cb : Nat) (lb : List (List Int)) (w : World) (hra : Kd.C (Kd.slice 3 (Kd.int .i64)) w A la.length la) (hrb : Kd.C (Kd.slice 3 (Kd.int .i64)) w B lb.length lb) :
    Calls Try.prog 43 #[.agg #[.int .i64 ea, .int .i64 sa, .slice A la.length ca], .agg #[.int .i64 eb, .int .i64 sb, .slice B lb.length cb]] w fun E w' => E = .returned (.int .i64 (pairVal ea sa la eb sb lb)) ∧ Below w.heap.size w w' := by
  have H1 := Aside0.mk fun W (hW : Below w.heap.size w W) => check_calls ea sa A ca la W (Kd.C_below hra hW)
  have H2 := Aside0.mk fun W (hW : Below w.heap.size w W) => check_calls eb sb B cb lb W (Kd.C_below hrb hW)
  clear hra hrb
  cases h1 : specOk ea sa la with
  | false =>
    rw [show pairVal ea sa la eb sb lb = 11 from by simp [pairVal, h1]]
    rw [show checkVal ea sa la = 11 from by simp [checkVal, h1]] at H1
    clear h1
    go_enter Try.func43, Try.ntmps43
    go_upto_region 1 with (fail)
    have HS := two3_begin w #[.int .i64 ea, .int .i64 sa, .slice A la.length ca] #[.int .i64 eb, .int .i64 sb, .slice B lb.length cb]
    generalize ((w.alloc (.cells #[.int .i64 ea, .int .i64 sa, .slice A la.length ca] 24)).alloc (.cells #[.int .i64 eb, .int .i64 sb, .slice B lb.length cb] 24)) = w0 at *
    obtain ⟨⟨hc0, hc1, hc2⟩, hd0, hd1, hd2⟩ := two3_held HS
    go_wp2_with fail
    refine (H1.out _ (HS.1).out).mono ?_
    rintro E w1 ⟨rfl, hb⟩
    have HS1 := two3_keep hb HS
    clear hb HS hc0 hc1 hc2 hd0 hd1 hd2 H1
    obtain ⟨⟨hc0, hc1, hc2⟩, hd0, hd1, hd2⟩ := two3_held HS1
    go_wp2
    go_ret
    exact ⟨rfl, (HS1.1).out⟩
  | true =>
    rw [show checkVal ea sa la = 0 from by simp [checkVal, h1]] at H1
    cases h2 : specOk eb sb lb with
    | false =>
      rw [show pairVal ea sa la eb sb lb = 11 from by simp [pairVal, h1, h2]]
      rw [show checkVal eb sb lb = 11 from by simp [checkVal, h2]] at H2
      clear h1 h2
      go_enter Try.func43, Try.ntmps43
      go_upto_region 1 with (fail)
      have HS := two3_begin w #[.int .i64 ea, .int .i64 sa, .slice A la.length ca] #[.int .i64 eb, .int .i64 sb, .slice B lb.length cb]
      generalize ((w.alloc (.cells #[.int .i64 ea, .int .i64 sa, .slice A la.length ca] 24)).alloc (.cells #[.int .i64 eb, .int .i64 sb, .slice B lb.length cb] 24)) = w0 at *
      obtain ⟨⟨hc0, hc1, hc2⟩, hd0, hd1, hd2⟩ := two3_held HS
      go_wp2_with fail
      refine (H1.out _ (HS.1).out).mono ?_
      rintro E w1 ⟨rfl, hb⟩
      have HS1 := two3_keep hb HS
      clear hb HS hc0 hc1 hc2 hd0 hd1 hd2 H1
      obtain ⟨⟨hc0, hc1, hc2⟩, hd0, hd1, hd2⟩ := two3_held HS1
      go_wp2_with fail
      refine (H2.out _ (HS1.1).out).mono ?_
      rintro E w2 ⟨rfl, hb⟩
      have HS2 := two3_keep hb HS1
      clear hb HS1 hc0 hc1 hc2 hd0 hd1 hd2 H2
      obtain ⟨⟨hc0, hc1, hc2⟩, hd0, hd1, hd2⟩ := two3_held HS2
      go_wp2
      go_ret
      exact ⟨rfl, (HS2.1).out⟩
    | true =>
      rw [show checkVal eb sb lb = 0 from by simp [checkVal, h2]] at H2
      by_cases he : ea = eb
      · rw [show pairVal ea sa la eb sb lb = 0 from by unfold pairVal; rw [h1, h2, if_pos rfl, if_pos rfl, if_pos he]]
        have he2 : (ea == eb) = true := beq_iff_eq.2 he
        clear h1 h2 he
        go_enter Try.func43, Try.ntmps43
        go_upto_region 1 with (fail)
        have HS := two3_begin w #[.int .i64 ea, .int .i64 sa, .slice A la.length ca] #[.int .i64 eb, .int .i64 sb, .slice B lb.length cb]
        generalize ((w.alloc (.cells #[.int .i64 ea, .int .i64 sa, .slice A la.length ca] 24)).alloc (.cells #[.int .i64 eb, .int .i64 sb, .slice B lb.length cb] 24)) = w0 at *
        obtain ⟨⟨hc0, hc1, hc2⟩, hd0, hd1, hd2⟩ := two3_held HS
        go_wp2_with fail
        refine (H1.out _ (HS.1).out).mono ?_
        rintro E w1 ⟨rfl, hb⟩
        have HS1 := two3_keep hb HS
        clear hb HS hc0 hc1 hc2 hd0 hd1 hd2 H1
        obtain ⟨⟨hc0, hc1, hc2⟩, hd0, hd1, hd2⟩ := two3_held HS1
        go_wp2_with fail
        refine (H2.out _ (HS1.1).out).mono ?_
        rintro E w2 ⟨rfl, hb⟩
        have HS2 := two3_keep hb HS1
        clear hb HS1 hc0 hc1 hc2 hd0 hd1 hd2 H2
        obtain ⟨⟨hc0, hc1, hc2⟩, hd0, hd1, hd2⟩ := two3_held HS2
        go_wp2
        go_ret
        exact ⟨rfl, (HS2.1).out⟩
      · rw [show pairVal ea sa la eb sb lb = 2 from by simp [pairVal, h1, h2, he]]
        have he2 : (ea == eb) = false := beq_eq_false_iff_ne.2 he
        clear h1 h2 he
        go_enter Try.func43, Try.ntmps43
        go_upto_region 1 with (fail)
        have HS := two3_begin w #[.int .i64 ea, .int .i64 sa, .slice A la.length ca] #[.int .i64 eb, .int .i64 sb, .slice B lb.length cb]
        generalize ((w.alloc (.cells #[.int .i64 ea, .int .i64 sa, .slice A la.length ca] 24)).alloc (.cells #[.int .i64 eb, .int .i64 sb, .slice B lb.length cb] 24)) = w0 at *
        obtain ⟨⟨hc0, hc1, hc2⟩, hd0, hd1, hd2⟩ := two3_held HS
        go_wp2_with fail
        refine (H1.out _ (HS.1).out).mono ?_
        rintro E w1 ⟨rfl, hb⟩
        have HS1 := two3_keep hb HS
        clear hb HS hc0 hc1 hc2 hd0 hd1 hd2 H1
        obtain ⟨⟨hc0, hc1, hc2⟩, hd0, hd1, hd2⟩ := two3_held HS1
        go_wp2_with fail
        refine (H2.out _ (HS1.1).out).mono ?_
        rintro E w2 ⟨rfl, hb⟩
        have HS2 := two3_keep hb HS1
        clear hb HS1 hc0 hc1 hc2 hd0 hd1 hd2 H2
        obtain ⟨⟨hc0, hc1, hc2⟩, hd0, hd1, hd2⟩ := two3_held HS2
        go_wp2
        go_ret
        exact ⟨rfl, (HS2.1).out⟩

/-! ### Both and Any -/
def mayBoth (x y : Int) : Bool := decide (x ≥ 0) && decide (y ≥ 0)
def mayAny (x y : Int) : Bool := decide (x ≥ 0) || decide (y ≥ 0)
theorem both1_calls : MayW 52 mayBoth := by
  intro W x y
  by_cases h1 : x ≥ 0
  · have h2 : decide (x ≥ 0) = true := by simpa using h1
    have H2 := Aside0.mk h2
    clear h1
    go_enter Try.func52, Try.ntmps52
    go_wp2
    go_ret
    exact ⟨by rw [mayBoth, H2.out, Bool.true_and]; rfl, Below.refl _ _⟩
  · have h2 : decide (x ≥ 0) = false := by simpa using h1
    have H2 := Aside0.mk h2
    clear h1
    go_enter Try.func52, Try.ntmps52
    go_wp2
    go_ret
    exact ⟨by rw [mayBoth, H2.out, Bool.false_and]; rfl, Below.refl _ _⟩
theorem any1_calls : MayW 54 mayAny := by
  intro W x y
  by_cases h1 : x ≥ 0
  · have h2 : decide (x ≥ 0) = true := by simpa using h1
    have H2 := Aside0.mk h2
    clear h1
    go_enter Try.func54, Try.ntmps54
    go_wp2
    go_ret
    exact ⟨by rw [mayAny, H2.out, Bool.true_or]; rfl, Below.refl _ _⟩
  · have h2 : decide (x ≥ 0) = false := by simpa using h1
    have H2 := Aside0.mk h2
    clear h1
    go_enter Try.func54, Try.ntmps54
    go_wp2
    go_ret
    exact ⟨by rw [mayAny, H2.out, Bool.false_or]; rfl, Below.refl _ _⟩
end Go.Proofs.Ytmphigeefppfpaa.H
/- spec.product walked. -/
namespace Go.Proofs.Ytmphigeefppfpaa.H
open Go.RowKit Go.Proofs.YtmphigeefppfpaaW.PrintWords Go.Proofs.YtmphigeefppfpaaW.PrintLast Go.Proofs.YtmphigeefppfpaaW.PrintMore
set_option linter.unusedVariables false

/-- Three cells written into a box. -/
def put3 (W : World) (rb : Nat) (a b c : Value) : World := ((W.setCell ⟨rb, 0, none⟩ a).setCell ⟨rb, 1, none⟩ b).setCell ⟨rb, 2, none⟩ c
theorem put3_grown (W : World) (rb : Nat) (a b c : Value) : W.grownBy (put3 W rb a b c) (some rb) :=
  ⟨rfl, rfl, rfl, by simp [put3, World.setCell], fun i _ hne => by
    have h : i ≠ rb := fun e => hne (by rw [e])
    exact (Below.heap_setCell _ ⟨rb, 2, none⟩ c i h).trans ((Below.heap_setCell _ ⟨rb, 1, none⟩ b i h).trans (Below.heap_setCell _ ⟨rb, 0, none⟩ a i h))⟩
theorem put3_blk {W : World} {rb : Nat} {a0 b0 c0 : Value} (h : W.heap[rb]? = some (.cells #[a0, b0, c0] 24 (0, 0))) (a b c : Value) : (put3 W rb a b c).heap[rb]? = some (.cells #[a, b, c] 24 (0, 0)) := blk_set (blk_set (blk_set h 0 a) 1 b) 2 c
theorem box_cells {W : World} {b : Nat} {x y z : Value} (h : W.heap[b]? = some (.cells #[x, y, z] 24 (0, 0))) : W.cell? ⟨b, 0, none⟩ = some x ∧ W.cell? ⟨b, 1, none⟩ = some y ∧ W.cell? ⟨b, 2, none⟩ = some z :=
  ⟨(blk_cell h 0).trans rfl, (blk_cell h 1).trans rfl, (blk_cell h 2).trans rfl⟩
theorem box_free {W : World} {b : Nat} {x y z : Value} (h : W.heap[b]? = some (.cells #[x, y, z] 24 (0, 0))) : W.frozen? ⟨b, 0, none⟩ = false ∧ W.frozen? ⟨b, 1, none⟩ = false ∧ W.frozen? ⟨b, 2, none⟩ = false :=
  ⟨blk_frozen h 0, blk_frozen h 1, blk_frozen h 2⟩
/-- The boxes of a call with two specifications and a function. -/
structure QB (w W : World) (va vb : Array Value) (fv : Value) : Prop where
  hb : Below w.heap.size w W
  ha : W.heap[w.heap.size]? = some (.cells va 24 (0, 0))
  hbb : W.heap[w.heap.size + 1]? = some (.cells vb 24 (0, 0))
  hf : W.heap[w.heap.size + 2]? = some (.cells #[fv] 71 (0, 0))
  hr : W.heap[w.heap.size + 3]? = some (.cells #[.int .i64 0, .int .i64 0, .slice none 0 0] 24 (0, 0))
theorem QB.below {w W W1 : World} {va vb : Array Value} {fv : Value} (h : QB w W va vb fv) (hb : Below W.heap.size W W1) : QB w W1 va vb fv := ⟨below_then h.hb h.hb.size hb, blk_below h.ha hb, blk_below h.hbb hb, blk_below h.hf hb, blk_below h.hr hb⟩
theorem QB.start (w : World) (va vb : Array Value) (fv : Value) : QB w ((((w.alloc (.cells va 24)).alloc (.cells vb 24)).alloc (.cells #[fv] 71)).alloc (.cells #[.int .i64 0, .int .i64 0, .slice none 0 0] 24)) va vb fv :=
  ⟨below_alloc (below_alloc (below_alloc (below_alloc (Below.refl _ _) _) _) _) _, blk_alloc (blk_alloc (blk_alloc (blk_new _ _) _) _) _, blk_alloc (blk_alloc (blk_at2 _ _ _) _) _, blk_alloc (blk_new' (W := (w.alloc (.cells va 24)).alloc (.cells vb 24)) (k := w.heap.size + 2) (.cells #[fv] 71) (by simp)) _, blk_new' (W := ((w.alloc (.cells va 24)).alloc (.cells vb 24)).alloc (.cells #[fv] 71)) (k := w.heap.size + 3) (.cells #[.int .i64 0, .int .i64 0, .slice none 0 0] 24) (by simp)⟩
theorem wf_small' {x : Int} (h0 : -1 ≤ x) (h1 : x < 9223372036854775808) : wf64 x := by
  simp [wf64, Lit.wf, IntKind.min, IntKind.max, IntKind.signed, IntKind.bits]; omega

set_option maxHeartbeats 4000000 in
theorem product_calls (g : Nat) (may : Int → Int → Bool) (hm : MayW g may) (eg : ∀ args w, (callFunc g args).run Try.prog w = .ok (.enter g args) w) (ea sa : Int) (A : Option Addr) (ca : Nat) (la : List (List Int)) (eb sb : Int) (B : Option Addr) (cb : Nat) (lb : List (List Int)) (w : World)
    (hra : Kd.C (Kd.slice 3 (Kd.int .i64)) w A la.length la) (hca : la.length ≤ ca) (hrb : Kd.C (Kd.slice 3 (Kd.int .i64)) w B lb.length lb) (hcb : lb.length ≤ cb) :
    Calls Try.prog 51 #[.agg #[.int .i64 ea, .int .i64 sa, .slice A la.length ca], .agg #[.int .i64 eb, .int .i64 sb, .slice B lb.length cb], .func (.func g) #[] #[]] w (ProdEnd may ea sa la eb sb lb w) := by
  have H1 := Aside0.mk fun W (hW : Below w.heap.size w W) => pair_calls ea sa A ca la eb sb B cb lb W (Kd.C_below hra hW) (Kd.C_below hrb hW)
  have HA := Aside0.mk hra
  have HB := Aside0.mk hrb
  have HM := Aside0.mk hm
  clear hra hrb hm
  by_cases hp : pairVal ea sa la eb sb lb = 0
  · obtain ⟨hsa, hsb, rfl⟩ := pairVal_zero hp
    rw [hp] at H1
    obtain ⟨_, _, he0, he1, _, hla⟩ := spec_table hsa
    obtain ⟨_, _, _, _, _, hlb⟩ := spec_table hsb
    have hfin := prod_fin (may := may) hsa hsb (pairs la lb)
    have hple := pairs_le hsa hsb
    obtain ⟨hg, hg0, hg1⟩ := table_ok' hfin
    obtain ⟨k, hk, hmin⟩ := cls_stop hg hg0
    have hrows : leastOf ea.toNat (bfsTo ea.toNat (stepQ la lb may) (sa, sb) (pairs la lb)).1 (clsTo (bfsTo ea.toNat (stepQ la lb may) (sa, sb) (pairs la lb)).1 (k + 1)).1 = prodRows ea sa sb la lb may :=
      (least_is hg hg0 hk).1.unique (rleast_is hg hg0 ⟨by omega, by omega⟩).1 (Lq.refl _)
    have HE := Aside0.mk (show (64 < (prodRows ea sa sb la lb may).length → ProdEnd may ea sa la ea sb lb = SpecEnd 3 0 0 []) ∧ (¬ 64 < (prodRows ea sa sb la lb may).length → ProdEnd may ea sa la ea sb lb = SpecEnd 0 ea 0 (prodRows ea sa sb la lb may)) from
      ⟨fun h => by simp [ProdEnd, pErr, pEv, pRows, hp, h], fun h => by simp [ProdEnd, pErr, pEv, pRows, hp, h]⟩)
    have H2 := Aside0.mk fun W (HS : QB w W #[.int .i64 ea, .int .i64 sa, .slice A la.length ca] #[.int .i64 ea, .int .i64 sb, .slice B lb.length cb] (.func (.func g) #[] #[])) =>
      exploredP_calls ea.toNat (sa, sb) 68 #[.pointer (some ⟨w.heap.size, 0, none⟩), .pointer (some ⟨w.heap.size + 1, 0, none⟩), .pointer (some ⟨w.heap.size + 2, 0, none⟩)] (domQ la lb) (stepQ la lb may) (pairs la lb) W (by omega) (by omega) hfin
        (fun W' x e hW hx he => step_calls g may HM.out ea sa sb A B ca cb la lb w.heap.size (w.heap.size + 1) (w.heap.size + 2) x e W' hsa hsb hx (by omega) (blk_below HS.ha hW) (blk_below HS.hbb hW) (blk_below HS.hf hW) (Kd.C_below HA.out (below_then HS.hb HS.hb.size hW)) hca (Kd.C_below HB.out (below_then HS.hb HS.hb.size hW)) hcb eg)
        ⟨spec_domN hsa, spec_domN hsb⟩ (stepQ_dom hsa hsb) (fun x hx => ⟨wf_small' hx.1.1 (by have := hx.1.2; omega), wf_small' hx.2.1 (by have := hx.2.2; omega)⟩) (fun _ _ => rfl)
    have H3 := Aside0.mk fun W A cg (hc : Kd.C (Kd.slice 3 (Kd.int .i64)) W A (bfsTo ea.toNat (stepQ la lb may) (sa, sb) (pairs la lb)).1.length (bfsTo ea.toNat (stepQ la lb may) (sa, sb) (pairs la lb)).1) => least_calls ea.toNat (bfsTo ea.toNat (stepQ la lb may) (sa, sb) (pairs la lb)).1 A cg k 0 W hc (by omega) hg0 (by omega) hg hk hmin
    unfold LeastEnd at H3
    rw [hrows] at H3
    rw [show ((ea.toNat : Nat) : Int) = ea from by omega] at H2 H3
    unfold ExEndP at H2
    generalize prodRows ea sa sb la lb may = rows at *
    generalize (bfsTo ea.toNat (stepQ la lb may) (sa, sb) (pairs la lb)).1 = tab at *
    clear hp hsa hsb hfin hple hg hg0 hg1 hk hmin hrows hla hlb
    have hmf := run_mkfun
    go_enter Try.func51, Try.ntmps51
    go_upto_region 1 with (fail)
    have HS := QB.start w #[.int .i64 ea, .int .i64 sa, .slice A la.length ca] #[.int .i64 ea, .int .i64 sb, .slice B lb.length cb] (.func (.func g) #[] #[])
    generalize ((((w.alloc (.cells #[.int .i64 ea, .int .i64 sa, .slice A la.length ca] 24)).alloc (.cells #[.int .i64 ea, .int .i64 sb, .slice B lb.length cb] 24)).alloc (.cells #[.func (.func g) #[] #[]] 71)).alloc (.cells #[.int .i64 0, .int .i64 0, .slice none 0 0] 24)) = w0 at *
    obtain ⟨hc0, hc1, hc2⟩ := box_cells HS.ha
    obtain ⟨hd0, hd1, hd2⟩ := box_cells HS.hbb
    go_wp2_with fail
    refine (H1.out _ HS.hb).mono ?_
    rintro E w1 ⟨rfl, hb⟩
    have HS1 := HS.below hb
    clear hb HS hc0 hc1 hc2 hd0 hd1 hd2 H1
    obtain ⟨hc0, hc1, hc2⟩ := box_cells HS1.ha
    obtain ⟨hd0, hd1, hd2⟩ := box_cells HS1.hbb
    go_wp2_with fail
    refine (H2.out _ HS1).mono ?_
    rintro E w2 ⟨ov, qv, So, Sq, rfl, _, ho, _, hb⟩
    obtain ⟨Ag, cg, rfl⟩ := Kd.R_slice ho
    have HO := Aside0.mk (Kd.R_reads' ho)
    have HS2 := HS1.below hb
    clear hb ho HS1 hc0 hc1 hc2 hd0 hd1 hd2 H2
    obtain ⟨hc0, hc1, hc2⟩ := box_cells HS2.ha
    go_wp2_with fail
    refine (H3.out _ _ _ (HO.out).2.2).mono ?_
    rintro E w3 ⟨ov2, So2, rfl, ho2, hb2⟩
    obtain ⟨A2, c2, rfl⟩ := Kd.R_slice ho2
    have HO2 := Aside0.mk (Kd.R_lower ho2 HS2.hb.size)
    have HS3 := HS2.below hb2
    clear hb2 ho2 HS2 hc0 hc1 hc2 H3 HO
    obtain ⟨hc0, hc1, hc2⟩ := box_cells HS3.ha
    obtain ⟨hd0, hd1, hd2⟩ := box_cells HS3.hr
    obtain ⟨hf0, hf1, hf2⟩ := box_free HS3.hr
    by_cases h64 : 64 < rows.length
    · have hz : (rows.length : Int) > 64 := by omega
      have HE2 := Aside0.mk ((HE.out).1 h64)
      clear HE h64
      go_wp2
      have hblk := put3_blk HS3.hr (.int .i64 0) (.int .i64 0) (.slice none 0 0)
      have hbl := pw_below_grown HS3.hb _ HS3.hb.size (put3_grown w3 (w.heap.size + 3) (.int .i64 0) (.int .i64 0) (.slice none 0 0)) (fun k hk => by cases hk; omega)
      unfold put3 at hblk hbl
      refine bodyPost_ret (results_row_tmp rfl _ _ (w.heap.size + 3) 24 #[.int .i64 0, .int .i64 0, .slice none 0 0] (0, 0) _ rfl hblk Try.underlying24 rfl (by kernel_rfl)) rfl ?_
      rw [HE2.out]
      exact ⟨none, 0, fun _ => False, rfl, Kd.R_nil _ _ _ _ _, hbl⟩
    · have hz : ¬ (rows.length : Int) > 64 := by omega
      have HE2 := Aside0.mk ((HE.out).2 h64)
      clear HE h64
      go_wp2
      have hblk := put3_blk HS3.hr (.int .i64 ea) (.int .i64 0) (.slice A2 rows.length c2)
      have hgr := put3_grown w3 (w.heap.size + 3) (.int .i64 ea) (.int .i64 0) (.slice A2 rows.length c2)
      have hbl := pw_below_grown HS3.hb _ HS3.hb.size hgr (fun k hk => by cases hk; omega)
      have hR := R_offrow HO2.out HS3.hr (by simp [Kd.slice, Kd.int, Kd.scalar]) hgr
      unfold put3 at hblk hbl hR
      refine bodyPost_ret (results_row_tmp rfl _ _ (w.heap.size + 3) 24 #[.int .i64 ea, .int .i64 0, .slice A2 rows.length c2] (0, 0) _ rfl hblk Try.underlying24 rfl (by kernel_rfl)) rfl ?_
      rw [HE2.out]
      exact ⟨A2, c2, So2, rfl, hR, hbl⟩
  · have HE := Aside0.mk (show ProdEnd may ea sa la eb sb lb = SpecEnd (pairVal ea sa la eb sb lb) 0 0 [] from by simp [ProdEnd, pErr, pEv, pRows, hp])
    generalize pairVal ea sa la eb sb lb = v at *
    have hv : (v == 0) = false := beq_eq_false_iff_ne.2 hp
    clear hp
    go_enter Try.func51, Try.ntmps51
    go_upto_region 1 with (fail)
    have HS := QB.start w #[.int .i64 ea, .int .i64 sa, .slice A la.length ca] #[.int .i64 eb, .int .i64 sb, .slice B lb.length cb] (.func (.func g) #[] #[])
    generalize ((((w.alloc (.cells #[.int .i64 ea, .int .i64 sa, .slice A la.length ca] 24)).alloc (.cells #[.int .i64 eb, .int .i64 sb, .slice B lb.length cb] 24)).alloc (.cells #[.func (.func g) #[] #[]] 71)).alloc (.cells #[.int .i64 0, .int .i64 0, .slice none 0 0] 24)) = w0 at *
    obtain ⟨hc0, hc1, hc2⟩ := box_cells HS.ha
    obtain ⟨hd0, hd1, hd2⟩ := box_cells HS.hbb
    go_wp2_with fail
    refine (H1.out _ HS.hb).mono ?_
    rintro E w1 ⟨rfl, hb⟩
    have HS1 := HS.below hb
    clear hb HS hc0 hc1 hc2 hd0 hd1 hd2 H1
    obtain ⟨hc0, hc1, hc2⟩ := box_cells HS1.hr
    obtain ⟨hf0, hf1, hf2⟩ := box_free HS1.hr
    go_wp2
    have hblk := put3_blk HS1.hr (.int .i64 0) (.int .i64 0) (.slice none 0 0)
    have hbl := pw_below_grown HS1.hb _ HS1.hb.size (put3_grown w1 (w.heap.size + 3) (.int .i64 0) (.int .i64 0) (.slice none 0 0)) (fun k hk => by cases hk; omega)
    unfold put3 at hblk hbl
    refine bodyPost_ret (results_row_tmp rfl _ _ (w.heap.size + 3) 24 #[.int .i64 0, .int .i64 0, .slice none 0 0] (0, 0) _ rfl hblk Try.underlying24 rfl (by kernel_rfl)) rfl ?_
    rw [HE.out]
    exact ⟨none, 0, fun _ => False, rfl, Kd.R_nil _ _ _ _ _, hbl⟩
end Go.Proofs.Ytmphigeefppfpaa.H
/- spec.Both, spec.Any. -/
namespace Go.Proofs.Ytmphigeefppfpaa.H
open Go.RowKit Go.Proofs.YtmphigeefppfpaaW.PrintWords Go.Proofs.YtmphigeefppfpaaW.PrintLast Go.Proofs.YtmphigeefppfpaaW.PrintMore
set_option linter.unusedVariables false

/-- The boxes of a call with two specifications. -/
structure TB (w W : World) (va vb : Array Value) : Prop where
  hb : Below w.heap.size w W
  ha : W.heap[w.heap.size]? = some (.cells va 24 (0, 0))
  hbb : W.heap[w.heap.size + 1]? = some (.cells vb 24 (0, 0))
  hr : W.heap[w.heap.size + 2]? = some (.cells #[.int .i64 0, .int .i64 0, .slice none 0 0] 24 (0, 0))
theorem TB.below {w W W1 : World} {va vb : Array Value} (h : TB w W va vb) (hb : Below W.heap.size W W1) : TB w W1 va vb := ⟨below_then h.hb h.hb.size hb, blk_below h.ha hb, blk_below h.hbb hb, blk_below h.hr hb⟩
theorem TB.start (w : World) (va vb : Array Value) : TB w (((w.alloc (.cells va 24)).alloc (.cells vb 24)).alloc (.cells #[.int .i64 0, .int .i64 0, .slice none 0 0] 24)) va vb :=
  ⟨below_alloc (below_alloc (below_alloc (Below.refl _ _) _) _) _, blk_alloc (blk_alloc (blk_new _ _) _) _, blk_alloc (blk_at2 _ _ _) _, blk_new' (W := (w.alloc (.cells va 24)).alloc (.cells vb 24)) (k := w.heap.size + 2) (.cells #[.int .i64 0, .int .i64 0, .slice none 0 0] 24) (by simp)⟩

set_option maxHeartbeats 1000000 in
theorem both_calls (ea sa : Int) (A : Option Addr) (ca : Nat) (la : List (List Int)) (eb sb : Int) (B : Option Addr) (cb : Nat) (lb : List (List Int)) (w : World)
    (hra : Kd.C (Kd.slice 3 (Kd.int .i64)) w A la.length la) (hca : la.length ≤ ca) (hrb : Kd.C (Kd.slice 3 (Kd.int .i64)) w B lb.length lb) (hcb : lb.length ≤ cb) :
    Calls Try.prog 29 #[.agg #[.int .i64 ea, .int .i64 sa, .slice A la.length ca], .agg #[.int .i64 eb, .int .i64 sb, .slice B lb.length cb]] w (ProdEnd mayBoth ea sa la eb sb lb w) := by
  have H1 := Aside0.mk fun W (hW : Below w.heap.size w W) => product_calls 52 mayBoth both1_calls (fun _ _ => rfl) ea sa A ca la eb sb B cb lb W (Kd.C_below hra hW) hca (Kd.C_below hrb hW) hcb
  unfold ProdEnd SpecEnd at H1
  unfold ProdEnd
  generalize pErr mayBoth ea sa la eb sb lb = err at *
  generalize pEv mayBoth ea sa la eb sb lb = n at *
  generalize pRows mayBoth ea sa la eb sb lb = rows at *
  clear hra hca hrb hcb
  go_enter Try.func29, Try.ntmps29
  go_upto_region 1 with (fail)
  have HS := TB.start w #[.int .i64 ea, .int .i64 sa, .slice A la.length ca] #[.int .i64 eb, .int .i64 sb, .slice B lb.length cb]
  generalize (((w.alloc (.cells #[.int .i64 ea, .int .i64 sa, .slice A la.length ca] 24)).alloc (.cells #[.int .i64 eb, .int .i64 sb, .slice B lb.length cb] 24)).alloc (.cells #[.int .i64 0, .int .i64 0, .slice none 0 0] 24)) = w0 at *
  obtain ⟨hc0, hc1, hc2⟩ := box_cells HS.ha
  obtain ⟨hd0, hd1, hd2⟩ := box_cells HS.hbb
  go_wp2_with fail
  refine (H1.out _ HS.hb).mono ?_
  rintro E w1 ⟨A2, c2, S2, rfl, ho, hb⟩
  have HO2 := Aside0.mk (Kd.R_lower ho HS.hb.size)
  have HS1 := HS.below hb
  clear hb ho HS hc0 hc1 hc2 hd0 hd1 hd2 H1
  obtain ⟨hc0, hc1, hc2⟩ := box_cells HS1.hr
  obtain ⟨hf0, hf1, hf2⟩ := box_free HS1.hr
  go_wp2
  have hblk := put3_blk HS1.hr (.int .i64 n) (.int .i64 0) (.slice A2 rows.length c2)
  have hgr := put3_grown w1 (w.heap.size + 2) (.int .i64 n) (.int .i64 0) (.slice A2 rows.length c2)
  have hbl := pw_below_grown HS1.hb _ HS1.hb.size hgr (fun k hk => by cases hk; omega)
  have hR := R_offrow HO2.out HS1.hr (by simp [Kd.slice, Kd.int, Kd.scalar]) hgr
  unfold put3 at hblk hbl hR
  refine bodyPost_ret (results_row_tmp rfl _ _ (w.heap.size + 2) 24 #[.int .i64 n, .int .i64 0, .slice A2 rows.length c2] (0, 0) _ rfl hblk Try.underlying24 rfl (by kernel_rfl)) rfl ?_
  exact ⟨A2, c2, S2, rfl, hR, hbl⟩

set_option maxHeartbeats 1000000 in
theorem any_calls (ea sa : Int) (A : Option Addr) (ca : Nat) (la : List (List Int)) (eb sb : Int) (B : Option Addr) (cb : Nat) (lb : List (List Int)) (w : World)
    (hra : Kd.C (Kd.slice 3 (Kd.int .i64)) w A la.length la) (hca : la.length ≤ ca) (hrb : Kd.C (Kd.slice 3 (Kd.int .i64)) w B lb.length lb) (hcb : lb.length ≤ cb) :
    Calls Try.prog 31 #[.agg #[.int .i64 ea, .int .i64 sa, .slice A la.length ca], .agg #[.int .i64 eb, .int .i64 sb, .slice B lb.length cb]] w (ProdEnd mayAny ea sa la eb sb lb w) := by
  have H1 := Aside0.mk fun W (hW : Below w.heap.size w W) => product_calls 54 mayAny any1_calls (fun _ _ => rfl) ea sa A ca la eb sb B cb lb W (Kd.C_below hra hW) hca (Kd.C_below hrb hW) hcb
  unfold ProdEnd SpecEnd at H1
  unfold ProdEnd
  generalize pErr mayAny ea sa la eb sb lb = err at *
  generalize pEv mayAny ea sa la eb sb lb = n at *
  generalize pRows mayAny ea sa la eb sb lb = rows at *
  clear hra hca hrb hcb
  go_enter Try.func31, Try.ntmps31
  go_upto_region 1 with (fail)
  have HS := TB.start w #[.int .i64 ea, .int .i64 sa, .slice A la.length ca] #[.int .i64 eb, .int .i64 sb, .slice B lb.length cb]
  generalize (((w.alloc (.cells #[.int .i64 ea, .int .i64 sa, .slice A la.length ca] 24)).alloc (.cells #[.int .i64 eb, .int .i64 sb, .slice B lb.length cb] 24)).alloc (.cells #[.int .i64 0, .int .i64 0, .slice none 0 0] 24)) = w0 at *
  obtain ⟨hc0, hc1, hc2⟩ := box_cells HS.ha
  obtain ⟨hd0, hd1, hd2⟩ := box_cells HS.hbb
  go_wp2_with fail
  refine (H1.out _ HS.hb).mono ?_
  rintro E w1 ⟨A2, c2, S2, rfl, ho, hb⟩
  have HO2 := Aside0.mk (Kd.R_lower ho HS.hb.size)
  have HS1 := HS.below hb
  clear hb ho HS hc0 hc1 hc2 hd0 hd1 hd2 H1
  obtain ⟨hc0, hc1, hc2⟩ := box_cells HS1.hr
  obtain ⟨hf0, hf1, hf2⟩ := box_free HS1.hr
  go_wp2
  have hblk := put3_blk HS1.hr (.int .i64 n) (.int .i64 0) (.slice A2 rows.length c2)
  have hgr := put3_grown w1 (w.heap.size + 2) (.int .i64 n) (.int .i64 0) (.slice A2 rows.length c2)
  have hbl := pw_below_grown HS1.hb _ HS1.hb.size hgr (fun k hk => by cases hk; omega)
  have hR := R_offrow HO2.out HS1.hr (by simp [Kd.slice, Kd.int, Kd.scalar]) hgr
  unfold put3 at hblk hbl hR
  refine bodyPost_ret (results_row_tmp rfl _ _ (w.heap.size + 2) 24 #[.int .i64 n, .int .i64 0, .slice A2 rows.length c2] (0, 0) _ rfl hblk Try.underlying24 rfl (by kernel_rfl)) rfl ?_
  exact ⟨A2, c2, S2, rfl, hR, hbl⟩
end Go.Proofs.Ytmphigeefppfpaa.H
/- The words of products. Plain Lean. -/
namespace Go.Proofs.Ytmphigeefppfpaa.H
open Go.RowKit Go.Proofs.YtmphigeefppfpaaW.PrintWords Go.Proofs.YtmphigeefppfpaaW.PrintLast Go.Proofs.YtmphigeefppfpaaW.PrintMore
set_option linter.unusedVariables false

theorem read_acc {ev : Int} {l : List (List Int)} : ∀ (xs : List Int) (q : Int) (i : Nat), 0 ≤ q → (∀ x ∈ xs, evBad ev x = false) → decide ((readFrom l q i xs).1 ≥ 0) = acc (stepS l) q (xs.map Int.toNat)
  | [], q, i, h, _ => by simp only [readFrom, List.map_nil, acc]; exact decide_eq_true h
  | x :: xs, q, i, h, hx => by
    have hb := hx x List.mem_cons_self
    simp only [evBad, Bool.or_eq_false_iff, decide_eq_false_iff_not] at hb
    have hxx : ((x.toNat : Nat) : Int) = x := by omega
    have ha : acc (stepS l) q ((x :: xs).map Int.toNat) = (decide (stepAt l q x ≥ 0) && acc (stepS l) (stepAt l q x) (xs.map Int.toNat)) := by
      simp only [List.map_cons, acc, stepS]
      rw [hxx]
    rw [ha]
    by_cases hn : stepAt l q x < 0
    · rw [show readFrom l q i (x :: xs) = (-1, i) from if_pos hn, decide_eq_false (by omega : ¬ stepAt l q x ≥ 0)]
      rfl
    · rw [show readFrom l q i (x :: xs) = readFrom l (stepAt l q x) (i + 1) xs from if_neg hn, decide_eq_true (by omega : stepAt l q x ≥ 0), Bool.true_and]
      exact read_acc xs _ (i + 1) (by omega) (fun y hy => hx y (List.mem_cons_of_mem _ hy))
theorem nextB_pos {l : List (List Int)} {q e : Int} (h : 0 ≤ q) : nextB l q e = stepAt l q e := if_neg (by omega)
theorem nextB_neg {l : List (List Int)} {q e : Int} (h : q < 0) : nextB l q e = -1 := if_pos h
theorem acc_both {la lb : List (List Int)} : ∀ (w : List Nat) (x y : Int), 0 ≤ x → 0 ≤ y → acc (stepQ la lb mayBoth) (x, y) w = (acc (stepS la) x w && acc (stepS lb) y w)
  | [], x, y, _, _ => rfl
  | e :: w, x, y, hx, hy => by
    simp only [acc, stepQ, stepS, mayBoth, nextB_pos hx, nextB_pos hy]
    by_cases h1 : stepAt la x e ≥ 0
    · by_cases h2 : stepAt lb y e ≥ 0
      · rw [decide_eq_true h1, decide_eq_true h2, Bool.true_and, Bool.true_and, Bool.true_and, Bool.true_and]
        exact acc_both w _ _ h1 h2
      · rw [decide_eq_false h2]; simp
    · rw [decide_eq_false h1]; simp
theorem acc_any {la lb : List (List Int)} : ∀ (w : List Nat) (x y : Int), (0 ≤ x ∨ 0 ≤ y) → acc (stepQ la lb mayAny) (x, y) w = ((decide (x ≥ 0) && acc (stepS la) x w) || (decide (y ≥ 0) && acc (stepS lb) y w))
  | [], x, y, h => by
    simp only [acc, Bool.and_true]
    rcases h with h | h
    · rw [decide_eq_true (show x ≥ 0 from h)]; rfl
    · rw [decide_eq_true (show y ≥ 0 from h), Bool.or_true]
  | e :: w, x, y, h => by
    simp only [acc, stepQ, stepS, mayAny]
    have hx : (decide (x ≥ 0) && (decide (stepAt la x e ≥ 0) && acc (stepS la) (stepAt la x e) w)) = (decide (nextB la x e ≥ 0) && acc (stepS la) (nextB la x e) w) := by
      by_cases h1 : x ≥ 0
      · rw [decide_eq_true h1, nextB_pos h1, Bool.true_and]
      · rw [decide_eq_false h1, nextB_neg (by omega), decide_eq_false (by omega : ¬ (-1 : Int) ≥ 0)]; rfl
    have hy : (decide (y ≥ 0) && (decide (stepAt lb y e ≥ 0) && acc (stepS lb) (stepAt lb y e) w)) = (decide (nextB lb y e ≥ 0) && acc (stepS lb) (nextB lb y e) w) := by
      by_cases h1 : y ≥ 0
      · rw [decide_eq_true h1, nextB_pos h1, Bool.true_and]
      · rw [decide_eq_false h1, nextB_neg (by omega), decide_eq_false (by omega : ¬ (-1 : Int) ≥ 0)]; rfl
    rw [hx, hy]
    by_cases h3 : nextB la x e ≥ 0 ∨ nextB lb y e ≥ 0
    · rw [acc_any w _ _ h3]
      rcases h3 with h3 | h3
      · rw [decide_eq_true h3]; simp
      · rw [decide_eq_true h3]; simp
    · rw [decide_eq_false (by omega : ¬ nextB la x e ≥ 0), decide_eq_false (by omega : ¬ nextB lb y e ≥ 0)]; rfl
/-- The rows of a product read what the pairs read. -/
theorem prod_is {ev sa sb : Int} {la lb : List (List Int)} {may : Int → Int → Bool} (ha : specOk ev sa la = true) (hb : specOk ev sb lb = true) : IsLeast ev.toNat (prodB ev sa sb la lb may).1 0 (prodRows ev sa sb la lb may) ∧ Lq ev.toNat (stepS (prodRows ev sa sb la lb may)) (stepQ la lb may) 0 (sa, sb) := by
  have hfin := prod_fin (may := may) ha hb (pairs la lb)
  obtain ⟨hg, hg0, _⟩ := table_ok' hfin
  have h1 := (rleast_is hg hg0 ⟨Int.le_refl _, Int.ofNat_lt.2 (show 0 < (bfsTo ev.toNat (stepQ la lb may) (sa, sb) (pairs la lb)).1.length from hg0)⟩ : IsLeast ev.toNat (prodB ev sa sb la lb may).1 0 (prodRows ev sa sb la lb may) ∧ _).1
  obtain ⟨_, ⟨r, hr⟩, _⟩ := bfs_done hfin
  exact ⟨h1, (isLeast_lq h1).trans (table_lq' (i := 0) hfin (by rw [hr]; rfl))⟩
theorem prod_spec {ev sa sb : Int} {la lb : List (List Int)} {may : Int → Int → Bool} (ha : specOk ev sa la = true) (hb : specOk ev sb lb = true) (h : (prodRows ev sa sb la lb may).length ≤ 64) : specOk ev 0 (prodRows ev sa sb la lb may) = true := by
  obtain ⟨_, _, h0, h1, _⟩ := spec_table ha
  obtain ⟨h3, h4⟩ := isLeast_ok (prod_is (may := may) ha hb).1
  have := specOk_of h3 h4 h (by omega)
  rwa [show ((ev.toNat : Nat) : Int) = ev from by omega] at this
theorem pErr_zero {may : Int → Int → Bool} {ea sa : Int} {la : List (List Int)} {eb sb : Int} {lb : List (List Int)} (h : pErr may ea sa la eb sb lb = 0) : specOk ea sa la = true ∧ specOk eb sb lb = true ∧ ea = eb ∧ (prodRows ea sa sb la lb may).length ≤ 64 := by
  unfold pErr at h
  split at h
  · rename_i h0
    obtain ⟨h1, h2, h3⟩ := pairVal_zero h0
    split at h
    · simp at h
    · exact ⟨h1, h2, h3, by omega⟩
  · exact absurd h (by assumption)
/-- Reading in a product. -/
theorem prod_read {may : Int → Int → Bool} {ea sa : Int} {la : List (List Int)} {eb sb : Int} {lb : List (List Int)} {xs : List Int} (h : pErr may ea sa la eb sb lb = 0) (hx : (readVal ea sa la xs).2.2 = 0) :
    (readVal (pEv may ea sa la eb sb lb) 0 (pRows may ea sa la eb sb lb) xs).2.2 = 0 ∧
    decide ((readVal (pEv may ea sa la eb sb lb) 0 (pRows may ea sa la eb sb lb) xs).1 ≥ 0) = acc (stepQ la lb may) (sa, sb) (xs.map Int.toNat) ∧
    decide ((readVal ea sa la xs).1 ≥ 0) = acc (stepS la) sa (xs.map Int.toNat) ∧ decide ((readVal eb sb lb xs).1 ≥ 0) = acc (stepS lb) sb (xs.map Int.toNat) ∧ 0 ≤ sa ∧ 0 ≤ sb := by
  obtain ⟨ha, hb, rfl, hl⟩ := pErr_zero h
  have hs := prod_spec (may := may) ha hb hl
  obtain ⟨_, hda, h0, _⟩ := spec_table ha
  obtain ⟨_, hdb, _⟩ := spec_table hb
  rw [show pEv may ea sa la ea sb lb = ea from if_pos h, show pRows may ea sa la ea sb lb = prodRows ea sa sb la lb may from if_pos h]
  unfold readVal at hx ⊢
  rw [ha] at hx ⊢
  rw [hb, hs]
  simp only [if_neg (by simp : ¬ (true = false))] at hx ⊢
  by_cases h4 : xs.length > 4096
  · rw [if_pos h4] at hx; simp at hx
  · rw [if_neg h4] at hx
    simp only [if_neg h4]
    cases hany : xs.any (evBad ea) with
    | true => rw [hany] at hx; simp at hx
    | false =>
      have hxe : ∀ x ∈ xs, evBad ea x = false := fun x hx => by
        simp only [List.any_eq_false, Bool.not_eq_true] at hany
        exact hany x hx
      simp only [Bool.false_eq_true, if_false]
      refine ⟨trivial, ?_, read_acc xs sa 0 hda.1 hxe, read_acc xs sb 0 hdb.1 hxe, hda.1, hdb.1⟩
      refine (read_acc xs 0 0 (Int.le_refl _) hxe).trans ?_
      refine (prod_is (may := may) ha hb).2 _ (fun e he => ?_)
      obtain ⟨x, hx, rfl⟩ := List.mem_map.1 he
      have := hxe x hx
      simp only [evBad, Bool.or_eq_false_iff, decide_eq_false_iff_not] at this
      omega
end Go.Proofs.Ytmphigeefppfpaa.H
/- The reference's product: what stands while it is walked. -/
namespace Go.Proofs.Ytmphigeefppfpaa.H
open Go.RowKit Go.Proofs.YtmphigeefppfpaaW.PrintWords Go.Proofs.YtmphigeefppfpaaW.PrintLast Go.Proofs.YtmphigeefppfpaaW.PrintMore
set_option linter.unusedVariables false

/-! ### two, next -/
theorem rtwo_ev (ea sa : Int) (la : List (List Int)) (eb sb : Int) (lb : List (List Int)) (ha : lens la) (hb : lens lb) : Ev (fun k => Q.virgationref11_two.f k ea sa la eb sb lb) (pairVal ea sa la eb sb lb) := by
  have j : ∀ x12 r, (if x12 = true then 11 else (if ea = eb then 0 else 2)) = r → Ev (fun k => Q.virgationref11_two.j0 k x12 ea sa la eb sb lb) r := by
    rintro x12 r rfl
    refine ev_end fun k => ?_
    simp only [Q.virgationref11_two.j0]
    split
    · rfl
    · split <;> rfl
  unfold Q.virgationref11_two.f
  refine Ev.bind (is_ev ea sa la ha) ?_
  cases h1 : specOk ea sa la with
  | false =>
    simp only [Bool.false_eq_true, if_false]
    exact j _ _ (by simp [pairVal, h1])
  | true =>
    simp only [if_true]
    refine Ev.bind (is_ev eb sb lb hb) ?_
    exact j _ _ (by cases h2 : specOk eb sb lb <;> simp [pairVal, h1, h2])
theorem rtwo_calls (ea sa : Int) (A : Option Addr) (ca : Nat) (la : List (List Int)) (eb sb : Int) (B : Option Addr) (cb : Nat) (lb : List (List Int)) (w : World) (hra : Kd.C (Kd.slice 3 (Kd.int .i64)) w A la.length la) (hca : la.length ≤ ca) (hrb : Kd.C (Kd.slice 3 (Kd.int .i64)) w B lb.length lb) (hcb : lb.length ≤ cb) :
    Calls Try.prog 46 #[.agg #[.int .i64 ea, .int .i64 sa, .slice A la.length ca], .agg #[.int .i64 eb, .int .i64 sb, .slice B lb.length cb]] w fun E w' => E = .returned (.int .i64 (pairVal ea sa la eb sb lb)) ∧ Below w.heap.size w w' := by
  obtain ⟨k, hk⟩ := (rtwo_ev ea sa la eb sb lb (lens_of_C hra) (lens_of_C hrb)).rounds
  exact Q.virgationref11_two.calls k ea sa A ca la eb sb B cb lb _ w hra hca hrb hcb hk
theorem rnext_calls {ev st : Int} {l : List (List Int)} (hs : specOk ev st l = true) {q e : Int} (hq : domN l q) (h0 : 0 ≤ e) (h1 : e < ev) (A : Option Addr) (c : Nat) (w : World) (hr : Kd.C (Kd.slice 3 (Kd.int .i64)) w A l.length l) (hc : l.length ≤ c) :
    Calls Try.prog 47 #[.agg #[.int .i64 ev, .int .i64 st, .slice A l.length c], .int .i64 q, .int .i64 e] w fun E w' => E = .returned (.int .i64 (nextB l q e)) ∧ Below w.heap.size w w' :=
  Q.virgationref11_next.calls ev st A c l q e _ w hr hc (next_val hs hq h0 h1)

/-! ### the list of pairs, each with a word -/
def kT : Kd (Int × Int) := Kd.iso (Kd.pair (Kd.int .i64) (Kd.pair (Kd.int .i64) (Kd.slice 3 (Kd.int .i64)))) (fun p => (p.1, p.2, []))
theorem info65 : (Try.prog.info? 65).map (fun i => (i.zero, i.size, i.bytes)) = some (some (.agg #[.int .i64 0, .int .i64 0, .slice none 0 0]), 3, 40) := by kernel_rfl
theorem M_tri (W : World) (base : Nat) (ok : Nat → Prop) (p : Int × Int) : kT.M W base ok p [.int .i64 p.1, .int .i64 p.2, .slice none 0 0] :=
  ⟨[.int .i64 p.1], [.int .i64 p.2, .slice none 0 0], rfl, rfl, [.int .i64 p.2], [.slice none 0 0], rfl, rfl, .slice none 0 0, rfl, Kd.R_nil _ _ _ _ _⟩
theorem kT_E : ∀ q, q ∈ 65 :: kT.E → q ≠ 24 := by simp [kT, Kd.iso, Kd.pair, Kd.slice, Kd.int, Kd.scalar]
theorem R_new1T (W : World) (x : Int × Int) (base : Nat) (hb : base ≤ W.heap.size) : Kd.R kT 65 (W.alloc (.cells #[.int .i64 x.1, .int .i64 x.2, .slice none 0 0] 65)) base (fun k => k = W.heap.size) (.slice (some ⟨W.heap.size, 0, none⟩) 1 1) [x] := by
  refine ⟨fun k hk => ?_, [.int .i64 x.1, .int .i64 x.2, .slice none 0 0], ⟨by rfl, .inr ⟨W.heap.size, 1, #[.int .i64 x.1, .int .i64 x.2, .slice none 0 0], rfl, hb, blk_new _ _, by simp, by decide, by simp [kT, Kd.iso, Kd.pair, Kd.slice, Kd.int, Kd.scalar], by simp [kT, Kd.iso, Kd.pair, Kd.slice, Kd.int, Kd.scalar]⟩⟩, ?_⟩
  · have : W.heap.size = k := by simpa [Value.ownBlock] using hk
    omega
  · exact (Reps.none _ _).snoc (M_tri _ _ _ x) rfl
theorem tri_at {e base n cap : Nat} {ok : Nat → Prop} {W : World} {ad : Addr} {xs : List (Int × Int)} (h : kT.R e W base ok (.slice (some ad) n cap) xs) {i : Nat} (hi : i < xs.length) (hn : n = xs.length) :
    W.cell? (ad.add (i * 3)) = some (.int .i64 xs[i].1) ∧ W.cell? ⟨(ad.add (i * 3)).block, (ad.add (i * 3)).off + 1, none⟩ = some (.int .i64 xs[i].2) := by
  obtain ⟨c, hc, hM, hcc⟩ := Kd.R_get h (0, 0) (i : Int) (by omega) (by omega)
  rw [Int.toNat_natCast, List.getD_eq_getElem?_getD, List.getElem?_eq_getElem hi, Option.getD_some] at hM
  obtain ⟨c0, c1, rfl, h0, c2, c3, rfl, h1, _⟩ := hM
  have e0 : c0 = [.int .i64 xs[i].1] := h0
  have e1 : c2 = [.int .i64 xs[i].2] := h1
  subst e0; subst e1
  rw [Int.toNat_natCast] at hcc
  refine ⟨hcc 0 _ rfl, ?_⟩
  have h2 := hcc 1 _ rfl
  obtain ⟨_, inner, ho, _⟩ := h
  rcases ho.2 with ⟨hv, _⟩ | ⟨g, cap, cur, hv, _⟩
  · cases hv
  · injection hv with hg _ _
    injection hg with hg
    subst hg
    rw [add_at] at h2 ⊢
    exact h2

/-! ### the boxes, the list, the rows -/
theorem TB.row {w W W1 : World} {va vb : Array Value} (h : TB w W va vb) {row : Option Nat} (hg : W.grownBy W1 row) (hne : ∀ k, row = some k → w.heap.size + 2 < k ∨ ∃ cells T, W.heap[k]? = some (.cells cells T (0, 0)) ∧ T ≠ 24 ∧ w.heap.size ≤ k) : TB w W1 va vb := by
  have hlt : ∀ {b : Nat} {v : Array Value}, b ≤ w.heap.size + 2 → W.heap[b]? = some (.cells v 24 (0, 0)) → some b ≠ row := by
    intro b v hb hv e
    rcases hne b e.symm with h1 | ⟨cells, T, h1, h2, _⟩
    · omega
    · exact blk_ne hv h1 (Ne.symm h2) rfl
  refine ⟨pw_below_grown h.hb _ h.hb.size hg (fun k hk => ?_), blk_grown h.ha hg (hlt (by omega) h.ha), blk_grown h.hbb hg (hlt (by omega) h.hbb), blk_grown h.hr hg (hlt (by omega) h.hr)⟩
  rcases hne k hk with h1 | ⟨_, _, _, _, h1⟩
  · omega
  · exact h1
structure RP (w W : World) (va vb : Array Value) (ob n : Nat) (bv qv ov rv : Value) (Sq So Sr : Nat → Prop) (q : List (Int × Int)) (o : List (List Int)) (r : List Int) : Prop where
  hT : TB w W va vb
  hob : w.heap.size + 2 < ob
  ho : W.heap[ob]? = some (.cells #[.int .i64 n, .int .i64 0, bv] 24 (0, 0))
  hQ : kT.R 65 W w.heap.size Sq qv q
  hO : Kd.R (Kd.slice 3 (Kd.int .i64)) 25 W w.heap.size So ov o
  hR : Kd.R (Kd.int .i64) 3 W w.heap.size Sr rv r
  dqo : Disj Sq So
  dqr : Disj Sq Sr
  dor : Disj So Sr
section
variable {w W W1 : World} {va vb : Array Value} {ob n : Nat} {bv qv ov rv qv1 ov1 rv1 : Value} {Sq So Sr : Nat → Prop} {q q1 : List (Int × Int)} {o o1 : List (List Int)} {r r1 : List Int}
theorem RP.below (h : RP w W va vb ob n bv qv ov rv Sq So Sr q o r) (hb : Below W.heap.size W W1) : RP w W1 va vb ob n bv qv ov rv Sq So Sr q o r :=
  ⟨h.hT.below hb, h.hob, blk_below h.ho hb, Kd.R_below h.hQ hb, Kd.R_below h.hO hb, Kd.R_below h.hR hb, h.dqo, h.dqr, h.dor⟩
theorem RP.bound (h : RP w W va vb ob n bv qv ov rv Sq So Sr q o r) : RP w W va vb ob n bv qv ov rv (fun k => Sq k ∧ k < W.heap.size) (fun k => So k ∧ k < W.heap.size) (fun k => Sr k ∧ k < W.heap.size) q o r :=
  ⟨h.hT, h.hob, h.ho, Kd.R_mono (Kd.R_bound h.hQ) (fun k hk => ⟨hk.1, hk.2.2.1⟩), Kd.R_mono (Kd.R_bound h.hO) (fun k hk => ⟨hk.1, hk.2.2.1⟩), Kd.R_mono (Kd.R_bound h.hR) (fun k hk => ⟨hk.1, hk.2.2.1⟩), h.dqo.less _, h.dqr.less _, h.dor.less _⟩
theorem RP.bound' (h : RP w W va vb ob n bv qv ov rv Sq So Sr q o r) : ∃ Sq1 So1 Sr1 : Nat → Prop, Aside0 (RP w W va vb ob n bv qv ov rv Sq1 So1 Sr1 q o r) ∧ Aside0 (∀ k, Sq1 k ∨ So1 k ∨ Sr1 k → k < W.heap.size) :=
  ⟨_, _, _, ⟨h.bound⟩, ⟨fun k hk => by rcases hk with hk | hk | hk <;> exact hk.2⟩⟩
/-- A block of another row is written: none of the rows'. -/
theorem RP.other {xb : Nat} {cells : Array Value} {T : TypeId} (h : RP w W va vb ob n bv qv ov rv Sq So Sr q o r) (hx : W.heap[xb]? = some (.cells cells T (0, 0))) (hT : T ≠ 24) (hb : w.heap.size ≤ xb) (h1 : ¬ Sq xb) (h2 : ¬ So xb) (h3 : ¬ Sr xb) (hg : W.grownBy W1 (some xb)) : RP w W1 va vb ob n bv qv ov rv Sq So Sr q o r :=
  ⟨h.hT.row hg (fun k hk => by cases hk; exact .inr ⟨_, _, hx, hT, hb⟩), h.hob, blk_grown h.ho hg (fun e => by injection e with e; exact blk_ne h.ho hx (Ne.symm hT) e),
    Kd.R_step h.hQ (fun k hk hlt => hg.block k hlt (fun e => by injection e with e; exact h1 (e ▸ hk))), Kd.R_step h.hO (fun k hk hlt => hg.block k hlt (fun e => by injection e with e; exact h2 (e ▸ hk))), Kd.R_step h.hR (fun k hk hlt => hg.block k hlt (fun e => by injection e with e; exact h3 (e ▸ hk))), h.dqo, h.dqr, h.dor⟩
theorem RP.appQ (h : RP w W va vb ob n bv qv ov rv Sq So Sr q o r) (hq : kT.R 65 W1 w.heap.size (fun k => Sq k ∨ W.heap.size ≤ k) qv1 q1) (hg : W.grownBy W1 qv.ownBlock) : RP w W1 va vb ob n bv qv1 ov rv (fun k => Sq k ∨ W.heap.size ≤ k) (fun k => So k ∧ k < W.heap.size) (fun k => Sr k ∧ k < W.heap.size) q1 o r :=
  ⟨h.hT.row hg (fun k hk => by obtain ⟨cells, hc⟩ := Kd.R_typed h.hQ _ hk; exact .inr ⟨_, _, hc, by decide, Kd.R_base h.hQ k hk⟩), h.hob, blk_grown h.ho hg (fun e => by obtain ⟨cells, hc⟩ := Kd.R_typed h.hQ _ e.symm; exact blk_ne h.ho hc (by decide) rfl),
    hq, R_stay h.hO hg (fun k hk hs => h.dqo k (h.hQ.1 k hk) hs), R_stay h.hR hg (fun k hk hs => h.dqr k (h.hQ.1 k hk) hs), h.dqo.fresh _, h.dqr.fresh _, h.dor.less _⟩
theorem RP.appR (h : RP w W va vb ob n bv qv ov rv Sq So Sr q o r) (hq : Kd.R (Kd.int .i64) 3 W1 w.heap.size (fun k => Sr k ∨ W.heap.size ≤ k) rv1 r1) (hg : W.grownBy W1 rv.ownBlock) : RP w W1 va vb ob n bv qv ov rv1 (fun k => Sq k ∧ k < W.heap.size) (fun k => So k ∧ k < W.heap.size) (fun k => Sr k ∨ W.heap.size ≤ k) q o r1 :=
  ⟨h.hT.row hg (fun k hk => by obtain ⟨cells, hc⟩ := Kd.R_typed h.hR _ hk; exact .inr ⟨_, _, hc, by decide, Kd.R_base h.hR k hk⟩), h.hob, blk_grown h.ho hg (fun e => by obtain ⟨cells, hc⟩ := Kd.R_typed h.hR _ e.symm; exact blk_ne h.ho hc (by decide) rfl),
    R_stay h.hQ hg (fun k hk hs => h.dqr k hs (h.hR.1 k hk)), R_stay h.hO hg (fun k hk hs => h.dor k hs (h.hR.1 k hk)), hq, h.dqo.less _, (h.dqr.symm.fresh _).symm, (h.dor.symm.fresh _).symm⟩
theorem RP.appO (h : RP w W va vb ob n bv qv ov rv Sq So Sr q o r) (hq : Kd.R (Kd.slice 3 (Kd.int .i64)) 25 W1 w.heap.size (fun k => (So k ∨ Sr k) ∨ W.heap.size ≤ k) ov1 o1) (hg : W.grownBy W1 ov.ownBlock) : RP w W1 va vb ob n bv qv ov1 (.slice none 0 0) (fun k => Sq k ∧ k < W.heap.size) (fun k => (So k ∨ Sr k) ∨ W.heap.size ≤ k) (fun _ => False) q o1 [] := by
  refine ⟨h.hT.row hg (fun k hk => by obtain ⟨cells, hc⟩ := Kd.R_typed h.hO _ hk; exact .inr ⟨_, _, hc, by decide, Kd.R_base h.hO k hk⟩), h.hob, blk_grown h.ho hg (fun e => by obtain ⟨cells, hc⟩ := Kd.R_typed h.hO _ e.symm; exact blk_ne h.ho hc (by decide) rfl),
    R_stay h.hQ hg (fun k hk hs => h.dqo k hs (h.hO.1 k hk)), hq, Kd.R_nil _ _ _ _ _, fun k ha hb => ?_, fun _ _ h => h, fun _ _ h => h⟩
  rcases hb with (hb | hb) | hb
  · exact h.dqo k ha.1 hb
  · exact h.dqr k ha.1 hb
  · have := ha.2; omega
theorem RP.put (h : RP w W va vb ob n bv qv ov rv Sq So Sr q o r) (bv1 : Value) : RP w (W.setCell ⟨ob, 2, none⟩ bv1) va vb ob n bv1 qv ov rv Sq So Sr q o r := by
  have hg := grown_setCell W ⟨ob, 2, none⟩ bv1
  exact ⟨h.hT.row hg (fun k hk => by cases hk; exact .inl h.hob), h.hob, blk_set h.ho 2 bv1, R_offrow h.hQ h.ho kT_E hg, R_offrow h.hO h.ho (by simp [Kd.slice, Kd.int, Kd.scalar]) hg, R_offrow h.hR h.ho (by simp [Kd.int, Kd.scalar]) hg, h.dqo, h.dqr, h.dor⟩
theorem RP.out3 {xb : Nat} {a0 b0 c0 : Value} (h : RP w W va vb ob n bv qv ov rv Sq So Sr q o r) (hx : W.heap[xb]? = some (.cells #[a0, b0, c0] 65 (0, 0))) (hS : ∀ k, Sq k ∨ So k ∨ Sr k → k < xb) (hb : w.heap.size ≤ xb) (a b c : Value) :
    RP w (((W.setCell ⟨xb, 0, none⟩ a).setCell ⟨xb, 1, none⟩ b).setCell ⟨xb, 2, none⟩ c) va vb ob n bv qv ov rv Sq So Sr q o r ∧ (((W.setCell ⟨xb, 0, none⟩ a).setCell ⟨xb, 1, none⟩ b).setCell ⟨xb, 2, none⟩ c).heap[xb]? = some (.cells #[a, b, c] 65 (0, 0)) :=
  ⟨h.other hx (by decide) hb (fun hk => Nat.lt_irrefl _ (hS _ (.inl hk))) (fun hk => Nat.lt_irrefl _ (hS _ (.inr (.inl hk)))) (fun hk => Nat.lt_irrefl _ (hS _ (.inr (.inr hk)))) (put3_grown W xb a b c), blk_set (blk_set (blk_set hx 0 a) 1 b) 2 c⟩
/-- What region 13 reads. -/
theorem RP.held {a b c d e f : Value} {ad : Addr} {c9 i : Nat} {x : Int × Int} (h : RP w W #[a, b, c] #[d, e, f] ob n bv (.slice (some ad) q.length c9) ov rv Sq So Sr q o r) (hx : q[i]? = some x) :
    ((W.cell? ⟨w.heap.size, 0, none⟩ = some a ∧ W.cell? ⟨w.heap.size, 1, none⟩ = some b ∧ W.cell? ⟨w.heap.size, 2, none⟩ = some c) ∧ (W.cell? ⟨w.heap.size + 1, 0, none⟩ = some d ∧ W.cell? ⟨w.heap.size + 1, 1, none⟩ = some e ∧ W.cell? ⟨w.heap.size + 1, 2, none⟩ = some f)) ∧
    (W.cell? (ad.add (i * 3)) = some (.int .i64 x.1) ∧ W.cell? ⟨(ad.add (i * 3)).block, (ad.add (i * 3)).off + 1, none⟩ = some (.int .i64 x.2)) := by
  obtain ⟨hi, rfl⟩ := List.getElem?_eq_some_iff.1 hx
  exact ⟨⟨box_cells h.hT.ha, box_cells h.hT.hbb⟩, tri_at h.hQ hi rfl⟩
end
theorem place_found {α : Type} [DecidableEq α] {q : List α} (hn : q.Nodup) {k : Nat} (hk : k < q.length) : place q[k] q = k := by
  unfold place
  exact List.Nodup.idxOf_getElem hn k hk
theorem dge_not (y : Int) : decide (y ≥ 0) = !decide (y < 0) := by
  by_cases h : y < 0
  · rw [decide_eq_true h, decide_eq_false (by omega)]; rfl
  · rw [decide_eq_false h, decide_eq_true (by omega)]; rfl
def mayOf (any : Bool) : Int → Int → Bool := if any then mayAny else mayBoth
theorem mayOf_not (any : Bool) (y1 y2 : Int) : (!(mayOf any y1 y2)) = ((decide (y1 < 0) && decide (y2 < 0)) || (!any && (decide (y1 < 0) || decide (y2 < 0)))) := by
  cases any <;> simp only [mayOf, mayAny, mayBoth, dge_not, if_true, if_false, Bool.false_eq_true] <;> cases decide (y1 < 0) <;> cases decide (y2 < 0) <;> rfl
end Go.Proofs.Ytmphigeefppfpaa.H
/- The reference's product, walked. -/
namespace Go.Proofs.Ytmphigeefppfpaa.H
open Go.RowKit Go.Proofs.YtmphigeefppfpaaW.PrintWords Go.Proofs.YtmphigeefppfpaaW.PrintLast Go.Proofs.YtmphigeefppfpaaW.PrintMore
set_option linter.unusedVariables false

set_option maxHeartbeats 8000000 in
set_option maxRecDepth 100000 in
theorem rproduct_calls (any : Bool) (ea sa : Int) (A : Option Addr) (ca : Nat) (la : List (List Int)) (eb sb : Int) (B : Option Addr) (cb : Nat) (lb : List (List Int)) (w : World)
    (hra : Kd.C (Kd.slice 3 (Kd.int .i64)) w A la.length la) (hca : la.length ≤ ca) (hrb : Kd.C (Kd.slice 3 (Kd.int .i64)) w B lb.length lb) (hcb : lb.length ≤ cb) :
    Calls Try.prog 53 #[.agg #[.int .i64 ea, .int .i64 sa, .slice A la.length ca], .agg #[.int .i64 eb, .int .i64 sb, .slice B lb.length cb], .bool any] w (ProdEnd (mayOf any) ea sa la eb sb lb w) := by
  have H1 := Aside0.mk fun W (hW : Below w.heap.size w W) => rtwo_calls ea sa A ca la eb sb B cb lb W (Kd.C_below hra hW) hca (Kd.C_below hrb hW) hcb
  have HA := Aside0.mk hra
  have HB := Aside0.mk hrb
  clear hra hrb
  by_cases hp : pairVal ea sa la eb sb lb = 0
  · obtain ⟨hsa, hsb, rfl⟩ := pairVal_zero hp
    rw [hp] at H1
    obtain ⟨_, _, he0, he1, _, hla⟩ := spec_table hsa
    obtain ⟨_, _, _, _, _, hlb⟩ := spec_table hsb
    obtain ⟨n, rfl⟩ : ∃ n : Nat, ea = (n : Int) := ⟨ea.toNat, by omega⟩
    have hn : n ≤ 16 := by omega
    have hst := fun m => prod_fin (may := mayOf any) hsa hsb m
    have hdom := stepQ_dom (may := mayOf any) hsa hsb
    have hple := pairs_le hsa hsb
    have HE := Aside0.mk (show (64 < (prodRows n sa sb la lb (mayOf any)).length → ProdEnd (mayOf any) n sa la n sb lb = SpecEnd 3 0 0 []) ∧ (¬ 64 < (prodRows n sa sb la lb (mayOf any)).length → ProdEnd (mayOf any) n sa la n sb lb = SpecEnd 0 n 0 (prodRows n sa sb la lb (mayOf any))) from
      ⟨fun h => by simp [ProdEnd, pErr, pEv, pRows, hp, h], fun h => by simp [ProdEnd, pErr, pEv, pRows, hp, h]⟩)
    have HRW := Aside0.mk (show prodRows n sa sb la lb (mayOf any) = rleastOf n (bfsTo n (stepQ la lb (mayOf any)) (sa, sb) (pairs la lb)).1 0 from by unfold prodRows prodB; rw [Int.toNat_natCast])
    rw [Int.toNat_natCast] at hst hdom
    have HTAB := Aside0.mk (table_ok' (hst (pairs la lb)))
    have HFIN := Aside0.mk hst
    have HDOM := Aside0.mk hdom
    have HD0 := Aside0.mk (show domQ la lb (sa, sb) from ⟨spec_domN hsa, spec_domN hsb⟩)
    have H2 := Aside0.mk fun W (hW : Below w.heap.size w W) (q e : Int) (hq : domN la q) (h0 : 0 ≤ e) (h1 : e < (n : Int)) => rnext_calls hsa hq h0 h1 A ca W (Kd.C_below HA.out hW) hca
    have H3 := Aside0.mk fun W (hW : Below w.heap.size w W) (q e : Int) (hq : domN lb q) (h0 : 0 ≤ e) (h1 : e < (n : Int)) => rnext_calls hsb hq h0 h1 B cb W (Kd.C_below HB.out hW) hcb
    generalize hN : pairs la lb = N at *
    generalize hR : prodRows n sa sb la lb (mayOf any) = rows at *
    clear hp hsa hsb hst hdom hla hlb hN hR he0 he1
    go_enter Try.func53, Try.ntmps53
    go_upto_region 1 with (fail)
    have HS := TB.start w #[.int .i64 n, .int .i64 sa, .slice A la.length ca] #[.int .i64 n, .int .i64 sb, .slice B lb.length cb]
    generalize (((w.alloc (.cells #[.int .i64 n, .int .i64 sa, .slice A la.length ca] 24)).alloc (.cells #[.int .i64 n, .int .i64 sb, .slice B lb.length cb] 24)).alloc (.cells #[.int .i64 0, .int .i64 0, .slice none 0 0] 24)) = w0 at *
    obtain ⟨hc0, hc1, hc2⟩ := box_cells HS.ha
    obtain ⟨hd0, hd1, hd2⟩ := box_cells HS.hbb
    go_wp2_with fail
    refine (H1.out _ HS.hb).mono ?_
    rintro E w1 ⟨rfl, hb⟩
    have HS1 := HS.below hb
    clear hb HS hc0 hc1 hc2 hd0 hd1 hd2 H1
    obtain ⟨hc0, hc1, hc2⟩ := box_cells HS1.ha
    obtain ⟨hd0, hd1, hd2⟩ := box_cells HS1.hbb
    go_upto_region 5 with (fail)
    have HO2 := Aside0.mk (blk_new w1 (.cells #[.int .i64 n, .int .i64 0, .slice none 0 0] 24))
    have HOB := Aside0.mk (show w.heap.size + 2 < w1.heap.size from (Array.getElem?_eq_some_iff.1 HS1.hr).1)
    have HS2 := HS1.below (below_alloc (Below.refl w1.heap.size w1) (.cells #[.int .i64 n, .int .i64 0, .slice none 0 0] 24))
    clear HS1 hc0 hc1 hc2 hd0 hd1 hd2
    generalize (w1.alloc (.cells #[.int .i64 n, .int .i64 0, .slice none 0 0] 24)) = w2 at *
    generalize w1.heap.size = ob at *
    obtain ⟨hc0, hc1, hc2⟩ := box_cells HS2.ha
    obtain ⟨hd0, hd1, hd2⟩ := box_cells HS2.hbb
    go_upto_region 6 with (fail)
    have HRP := Aside0.mk (RP.mk (w := w) (W := w2.alloc (.cells #[.int .i64 sa, .int .i64 sb, .slice none 0 0] 65)) (va := #[.int .i64 n, .int .i64 sa, .slice A la.length ca]) (vb := #[.int .i64 n, .int .i64 sb, .slice B lb.length cb]) (ob := ob) (n := n) (bv := .slice none 0 0) (qv := .slice (some ⟨w2.heap.size, 0, none⟩) 1 1) (ov := .slice none 0 0) (rv := .slice none 0 0) (Sq := fun k => k = w2.heap.size) (So := fun _ => False) (Sr := fun _ => False) (q := [(sa, sb)]) (o := []) (r := [])
      (HS2.below (below_alloc (Below.refl _ _) _)) HOB.out (blk_alloc HO2.out _) (R_new1T w2 (sa, sb) w.heap.size HS2.hb.size) (Kd.R_nil _ _ _ _ _) (Kd.R_nil _ _ _ _ _) (fun _ _ h => h) (fun _ _ h => h) (fun _ _ h => h))
    clear HS2 HO2 hc0 hc1 hc2 hd0 hd1 hd2
    generalize (w2.alloc (.cells #[.int .i64 sa, .int .i64 sb, .slice none 0 0] 65)) = w3 at *
    generalize w2.heap.size = qb at *
    go_wp2
    go_loopg [10, 11] N (fun gg v10 v11 wi => ∃ (i : Nat) (ov : Value) (Sq So : Nat → Prop), i ≤ N ∧ N - i ≤ gg ∧ v11 = .int .i64 i ∧
      Aside0 (RP w wi #[.int .i64 n, .int .i64 sa, .slice A la.length ca] #[.int .i64 n, .int .i64 sb, .slice B lb.length cb] ob n ov v10 ov (.slice none 0 0) Sq So (fun _ => False) (bfsTo n (stepQ la lb (mayOf any)) (sa, sb) i).2 (bfsTo n (stepQ la lb (mayOf any)) (sa, sb) i).1 []))
    case atStart => exact ⟨0, _, _, _, by omega, by omega, rfl, HRP⟩
    case round =>
      clear HRP
      obtain ⟨i, ov, Sq, So, him, hgg, rfl, HRP⟩ := hrel
      obtain ⟨A9, c9, rfl⟩ := Kd.R_slice (HRP.out).hQ
      have hsz := HFIN.out i
      by_cases hlt : i < (bfsTo n (stepQ la lb (mayOf any)) (sa, sb) i).2.length
      · have hltz : (i : Int) < ((bfsTo n (stepQ la lb (mayOf any)) (sa, sb) i).2.length : Int) := by omega
        have HST := Aside0.mk (bfsTo_step (n := n) (step := stepQ la lb (mayOf any)) (start := (sa, sb)) hlt)
        have HXD := Aside0.mk (bfsTo_all (n := n) (D := domQ la lb) HDOM.out HD0.out i _ (List.getElem_mem hlt))
        have HND := Aside0.mk (bfsTo_nodup (n := n) (step := stepQ la lb (mayOf any)) (start := (sa, sb)) i)
        have HOL := Aside0.mk (bfsTo_out (n := n) (step := stepQ la lb (mayOf any)) (start := (sa, sb)) (i := i))
        have HQM := Aside0.mk (HFIN.out (i + 1))
        rw [HST.out] at HQM
        have HXI := Aside0.mk (List.getElem?_eq_getElem hlt)
        have him2 : i + 1 ≤ N := by omega
        generalize (bfsTo n (stepQ la lb (mayOf any)) (sa, sb) i).2[i] = x at *
        generalize (bfsTo n (stepQ la lb (mayOf any)) (sa, sb) i).2 = q at *
        generalize (bfsTo n (stepQ la lb (mayOf any)) (sa, sb) i).1 = o at *
        obtain ⟨hc0, hc1, hc2⟩ := box_cells (HRP.out).hT.ha
        go_wp2
        clear hc0 hc1 hc2
        go_loopg [10, 12, 40] n (fun gk v10 v12 v40 wi => ∃ (e : Nat) (Sq So Sr : Nat → Prop), e ≤ n ∧ n - e ≤ gk ∧ v40 = .int .i64 e ∧
          Aside0 (RP w wi #[.int .i64 n, .int .i64 sa, .slice A la.length ca] #[.int .i64 n, .int .i64 sb, .slice B lb.length cb] ob n ov v10 ov v12 Sq So Sr (rowTo (stepQ la lb (mayOf any)) x q e).2 o (rowTo (stepQ la lb (mayOf any)) x q e).1))
        case atStart => exact ⟨0, _, _, _, by omega, by omega, rfl, HRP⟩
        case round =>
          clear HRP Sq So
          obtain ⟨e, Sq, So, Sr, hen, hgk, rfl, HRP⟩ := hrel
          by_cases hle : e < n
          · have hlez : (e : Int) < (n : Int) := by omega
            have HRS := Aside0.mk (show rowTo (stepQ la lb (mayOf any)) x q (e + 1) = if mayOf any (nextB la x.1 e) (nextB lb x.2 e) then ((rowTo (stepQ la lb (mayOf any)) x q e).1 ++ [(place (nextB la x.1 e, nextB lb x.2 e) (rowTo (stepQ la lb (mayOf any)) x q e).2 : Int)], ins (rowTo (stepQ la lb (mayOf any)) x q e).2 (nextB la x.1 e, nextB lb x.2 e)) else ((rowTo (stepQ la lb (mayOf any)) x q e).1 ++ [-1], (rowTo (stepQ la lb (mayOf any)) x q e).2) from rfl)
            have hql := Nat.le_trans (rowTo_mono (step := stepQ la lb (mayOf any)) (x := x) (q := q) (e := e) (e' := n) (by omega)) HQM.out
            have HRL := Aside0.mk (rowTo_len (step := stepQ la lb (mayOf any)) (x := x) (q := q) (e := e))
            have HNE := Aside0.mk (rowTo_nodup (step := stepQ la lb (mayOf any)) (x := x) (e := e) HND.out)
            have HXE := Aside0.mk (show (rowTo (stepQ la lb (mayOf any)) x q e).2[i]? = some x from by
              obtain ⟨r, hr⟩ := rowTo_pre (step := stepQ la lb (mayOf any)) (x := x) (q := q) (e := e)
              rw [hr, List.getElem?_append_left hlt]; exact HXI.out)
            have hix : i < (rowTo (stepQ la lb (mayOf any)) x q e).2.length := (List.getElem?_eq_some_iff.1 HXE.out).1
            generalize (rowTo (stepQ la lb (mayOf any)) x q e).2 = qe at *
            generalize (rowTo (stepQ la lb (mayOf any)) x q e).1 = re at *
            obtain ⟨A9, c9, rfl⟩ := Kd.R_slice (HRP.out).hQ
            obtain ⟨A12, c12, rfl⟩ := Kd.R_slice (HRP.out).hR
            obtain ⟨ad, rfl⟩ : ∃ ad, A9 = some ad := by
              obtain ⟨ad, e0, _⟩ := (Kd.R_reads' (HRP.out).hQ).2.2.2.2 (by omega)
              exact ⟨ad, e0⟩
            have H2c := Aside0.mk fun W (hW : Below w.heap.size w W) => H2.out W hW x.1 e (HXD.out).1 (by omega) (by omega)
            have H3c := Aside0.mk fun W (hW : Below w.heap.size w W) => H3.out W hW x.2 e (HXD.out).2 (by omega) (by omega)
            generalize nextB la x.1 e = y1 at *
            generalize nextB lb x.2 e = y2 at *
            go_upto_region 13 with (fail)
            go_cut [14] from 43 to 59 (fun s14 wx => ∃ (xb : Nat) (Sq So Sr : Nat → Prop), s14 = .pointer (some ⟨xb, 0, none⟩) ∧ Aside0 (wx.heap[xb]? = some (.cells #[.int .i64 y1, .int .i64 y2, .slice none 0 0] 65 (0, 0))) ∧
              Aside0 (RP w wx #[.int .i64 n, .int .i64 sa, .slice A la.length ca] #[.int .i64 n, .int .i64 sb, .slice B lb.length cb] ob n ov (.slice (some ad) qe.length c9) ov (.slice A12 re.length c12) Sq So Sr qe o re))
            case first =>
              obtain ⟨Sq1, So1, Sr1, HB0, HSS⟩ := (HRP.out).bound'
              have HBS := Aside0.mk ((HB0.out).hT.hb).size
              clear HRP
              generalize hw0 : wr = w0 at *
              have HP0 := (HB0.out).below (W1 := w0.drew) (below_drew (Below.refl _ _))
              go_region_held3 (fun w' => ((w'.cell? ⟨w.heap.size, 0, none⟩ = some (.int .i64 n) ∧ w'.cell? ⟨w.heap.size, 1, none⟩ = some (.int .i64 sa) ∧ w'.cell? ⟨w.heap.size, 2, none⟩ = some (.slice A la.length ca)) ∧ (w'.cell? ⟨w.heap.size + 1, 0, none⟩ = some (.int .i64 n) ∧ w'.cell? ⟨w.heap.size + 1, 1, none⟩ = some (.int .i64 sb) ∧ w'.cell? ⟨w.heap.size + 1, 2, none⟩ = some (.slice B lb.length cb))) ∧
                  (w'.cell? (ad.add (i * 3)) = some (.int .i64 x.1) ∧ w'.cell? ⟨(ad.add (i * 3)).block, (ad.add (i * 3)).off + 1, none⟩ = some (.int .i64 x.2)))
                (first | exact HP0.held HXE.out | exact HP1.held HXE.out | exact HP2.held HXE.out | exact RP.held (RP.out3 HP2 HN2 HT HU _ _ _).1 HXE.out | exact RP.held (RP.below HB0.out (below_drew (below_alloc (Below.refl w0.heap.size w0) (.cells #[.int .i64 0, .int .i64 0, .slice none 0 0] 65)))) HXE.out | exact RP.held (RP.below HP1 (below_alloc (Below.refl _ _) _)) HXE.out | exact RP.held (RP.below HP2 (below_alloc (Below.refl _ _) _)) HXE.out | fail)
                (first
                  | (go_at_call 47; (first | (with_reducible refine (H2c.out _ HP0.hT.hb).mono ?_) | (have HN : ((w0.alloc (.cells #[.int .i64 0, .int .i64 0, .slice none 0 0] 65)).drew).heap[w0.heap.size]? = some (.cells #[.int .i64 0, .int .i64 0, .slice none 0 0] 65 (0, 0)) := blk_drew (blk_new w0 _); have HT := HSS.out; have HU := HBS.out; have HP0 := (HB0.out).below (below_drew (below_alloc (Below.refl w0.heap.size w0) (.cells #[.int .i64 0, .int .i64 0, .slice none 0 0] 65))); with_reducible refine (H2c.out _ HP0.hT.hb).mono ?_)); rintro E w4 ⟨rfl, hb⟩; have HV : w0.heap.size ≤ w4.heap.size := (Nat.le_trans (by simp) hb.size); have HP1 := HP0.below hb; (try have HN1 := blk_below HN hb); clear hb; (try clear HN); clear HP0)
                  | (go_at_call 47; (first | (with_reducible refine (H3c.out _ HP1.hT.hb).mono ?_) | (have HN1 : (w4.alloc (.cells #[.int .i64 0, .int .i64 0, .slice none 0 0] 65)).heap[w4.heap.size]? = some (.cells #[.int .i64 0, .int .i64 0, .slice none 0 0] 65 (0, 0)) := blk_new w4 _; have HT := fun k hk => Nat.lt_of_lt_of_le (HSS.out k hk) HV; have HU := Nat.le_trans HBS.out HV; have HP1 := HP1.below (below_alloc (Below.refl _ _) (.cells #[.int .i64 0, .int .i64 0, .slice none 0 0] 65)); with_reducible refine (H3c.out _ HP1.hT.hb).mono ?_)); rintro E w5 ⟨rfl, hb⟩; have HP2 := HP1.below hb; (try have HN2 := blk_below HN1 hb); clear hb; (try clear HN1); clear HP1; (try (have hk0 := (blk_cell HN2 0).trans rfl; have hk1 := (blk_cell HN2 1).trans rfl; have hk2 := (blk_cell HN2 2).trans rfl; have hf0 := blk_frozen HN2 0; have hf1 := blk_frozen HN2 1; have hf2 := blk_frozen HN2 2)))
                  | fail)
              · go_wp2_with fail
                go_meet
                exact ⟨_, Sq1, So1, Sr1, rfl, ⟨blk_new w5 _⟩, ⟨HP2.below (below_alloc (Below.refl _ _) _)⟩⟩
              · go_wp2_with fail
                go_meet
                exact ⟨_, Sq1, So1, Sr1, rfl, ⟨(RP.out3 HP2 HN2 HT HU _ _ _).2⟩, ⟨(RP.out3 HP2 HN2 HT HU _ _ _).1⟩⟩
              · go_wp2_with fail
                go_meet
                exact ⟨_, Sq1, So1, Sr1, rfl, ⟨(RP.out3 HP2 HN2 HT HU _ _ _).2⟩, ⟨(RP.out3 HP2 HN2 HT HU _ _ _).1⟩⟩
            case rest =>
              clear HRP H2c H3c
              obtain ⟨xb, Sq1, So1, Sr1, rfl, HX, HP⟩ := hcut
              have hk0 : wc.cell? ⟨xb, 0, none⟩ = some (.int .i64 y1) := (blk_cell HX.out 0).trans rfl
              have hk1 : wc.cell? ⟨xb, 1, none⟩ = some (.int .i64 y2) := (blk_cell HX.out 1).trans rfl
              generalize wc = w6 at *
              go_upto_region 14 with (fail)
              go_cut [81] from 60 to 81 (fun s81 wx => s81 = .bool (!(mayOf any y1 y2)) ∧ w6 = wx)
              case first =>
                cases any
                all_goals by_cases h1 : y1 < 0
                all_goals by_cases h2 : y2 < 0
                all_goals
                  first
                    | have k1 : decide (y1 < 0) = true := by simpa using h1
                    | have k1 : decide (y1 < 0) = false := by simpa using h1
                  first
                    | have k2 : decide (y2 < 0) = true := by simpa using h2
                    | have k2 : decide (y2 < 0) = false := by simpa using h2
                  go_wp2
                  go_meet
                  refine ⟨?_, rfl⟩
                  congr 1
                  rw [mayOf_not, k1, k2]
                  rfl
              case rest =>
                obtain ⟨rfl, rfl⟩ := hcut
                have hlr2 : (re.length + 1) * 8 ≤ 140737488355328 := by have := HRL.out; omega
                cases hmay : mayOf any y1 y2 with
                | false =>
                  rw [hmay] at HRS
                  simp only [Bool.false_eq_true, if_false] at HRS
                  clear hmay hk0 hk1 HX
                  go_wp2_with ((with_reducible refine gate_builtin (b := .append) (xs := #[.tmp 82, .tmp 83]) rfl ?_); at_builtin; refine Kd.R_append (Kd.int .i64) (w0 := w) w.heap.size rfl (.tmp 82) (.tmp 83) 25 3 (.int .i64 0) 8 rfl Try.underlying25 info3 rfl (by decide) (by omega) (.slice A12 re.length c12) re (-1) [.int .i64 (-1)] (fun k => Sr1 k ∨ w6.heap.size ≤ k) (fun _ => False) rfl rfl rfl (fun _ hk => hk.elim) (fun k hk => .inr hk) (Kd.R_mono (HP.out).hR (fun _ hk => .inl hk)) (HP.out).hT.hb ((HP.out).hT.hb).size hlr2 ?_; intro v7 w7 ho7 hb7 hg7 hat7; have HP7 := Aside0.mk ((HP.out).appR ho7 hg7); clear ho7 hb7 hg7 hat7 HP)
                  go_roundg (n - (e + 1))
                  case measure => omega
                  case rel =>
                    refine ⟨e + 1, fun k => Sq1 k ∧ k < w6.heap.size, fun k => So1 k ∧ k < w6.heap.size, fun k => Sr1 k ∨ w6.heap.size ≤ k, by omega, by omega, by go_num, ?_⟩
                    rw [HRS.out]
                    exact HP7
                | true =>
                  rw [hmay] at HRS
                  simp only [if_true] at HRS
                  clear hmay hk0 hk1
                  go_wp2
                  go_loopg [15] qe.length (fun gg3 v15 wi => ∃ k : Nat, k ≤ qe.length ∧ qe.length - k ≤ gg3 ∧ v15 = .int .i64 k ∧ Aside0 (wi.heap[xb]? = some (.cells #[.int .i64 y1, .int .i64 y2, .slice none 0 0] 65 (0, 0))) ∧ Aside0 (∀ (j : Nat) (hj : j < qe.length), j < k → qe[j] ≠ (y1, y2)) ∧
                    Aside0 (RP w wi #[.int .i64 n, .int .i64 sa, .slice A la.length ca] #[.int .i64 n, .int .i64 sb, .slice B lb.length cb] ob n ov (.slice (some ad) qe.length c9) ov (.slice A12 re.length c12) Sq1 So1 Sr1 qe o re))
                  case atStart => exact ⟨0, by omega, by omega, rfl, HX, ⟨fun j _ h => absurd h (Nat.not_lt_zero _)⟩, HP⟩
                  case round =>
                    clear HX HP
                    obtain ⟨k, hkq, hg3, rfl, HX, HNO, HP⟩ := hrel
                    by_cases hkt : k < qe.length
                    · have hktz : (k : Int) < (qe.length : Int) := by omega
                      have hk0 : wr.cell? ⟨xb, 0, none⟩ = some (.int .i64 y1) := (blk_cell HX.out 0).trans rfl
                      have hk1 : wr.cell? ⟨xb, 1, none⟩ = some (.int .i64 y2) := (blk_cell HX.out 1).trans rfl
                      obtain ⟨ht0, ht1⟩ := tri_at (HP.out).hQ hkt rfl
                      have HNX := Aside0.mk (show qe[k] ≠ (y1, y2) → ∀ (j : Nat) (hj : j < qe.length), j < k + 1 → qe[j] ≠ (y1, y2) from fun hne j hj h => by
                        by_cases e : j = k
                        · subst e; exact hne
                        · exact HNO.out j hj (by omega))
                      have HPF := Aside0.mk (place_found HNE.out hkt)
                      have HMF := Aside0.mk (List.getElem_mem hkt)
                      generalize qe[k] = z at *
                      obtain ⟨z1, z2⟩ := z
                      by_cases e1 : z1 = y1
                      · have k1 : (z1 != y1) = false := bne_eq_false_iff_eq.2 e1
                        by_cases e2 : z2 = y2
                        · have k2 : (z2 != y2) = false := bne_eq_false_iff_eq.2 e2
                          have HZ := Aside0.mk (show ((z1, z2) : Int × Int) = (y1, y2) from by rw [e1, e2])
                          rw [HZ.out] at HPF HMF
                          rw [ins, if_pos HMF.out, HPF.out] at HRS
                          clear e1 e2 HNX
                          go_wp2
                          go_quiet (fail)
                          have HP2 := Aside0.mk ((HP.out).below (pw_below_drewN (Below.refl _ _) nq))
                          clear HP hk0 hk1 ht0 ht1 HX
                          generalize (wr.drewN nq) = w7 at *
                          have hne : ((k : Int) == (qe.length : Int)) = false := beq_eq_false_iff_ne.2 (by omega)
                          go_wp2_with ((with_reducible refine gate_builtin (b := .append) (xs := #[.tmp 119, .tmp 121]) rfl ?_); at_builtin; refine Kd.R_append (Kd.int .i64) (w0 := w) w.heap.size rfl (.tmp 119) (.tmp 121) 25 3 (.int .i64 0) 8 rfl Try.underlying25 info3 rfl (by decide) (by omega) (.slice A12 re.length c12) re ((k : Int)) [.int .i64 ((k : Int))] (fun k => Sr1 k ∨ w7.heap.size ≤ k) (fun _ => False) rfl rfl rfl (fun _ hk => hk.elim) (fun k hk => .inr hk) (Kd.R_mono (HP2.out).hR (fun _ hk => .inl hk)) (HP2.out).hT.hb ((HP2.out).hT.hb).size hlr2 ?_; intro v9 w9 ho9 hb9 hg9 hat9; have HP7 := Aside0.mk ((HP2.out).appR ho9 hg9); clear ho9 hb9 hg9 hat9 HP2)
                          go_roundg (n - (e + 1))
                          case measure => omega
                          case rel =>
                            refine ⟨e + 1, fun k => Sq1 k ∧ k < w7.heap.size, fun k => So1 k ∧ k < w7.heap.size, fun k => Sr1 k ∨ w7.heap.size ≤ k, by omega, by omega, by go_num, ?_⟩
                            rw [HRS.out]
                            exact HP7
                        · have k2 : (z2 != y2) = true := bne_iff_ne.2 e2
                          have HNX2 := Aside0.mk (HNX.out (fun e => e2 (congrArg Prod.snd e)))
                          clear e1 e2 HPF HMF HNX
                          go_wp2
                          repeat (go_quiet (fail); try go_wp2)
                          go_roundg (qe.length - (k + 1))
                          case measure => omega
                          case rel => exact ⟨k + 1, by omega, by omega, by go_num, ⟨blk_below HX.out (pw_below_drewN (Below.refl _ _) _)⟩, HNX2, ⟨(HP.out).below (pw_below_drewN (Below.refl _ _) _)⟩⟩
                      · have k1 : (z1 != y1) = true := bne_iff_ne.2 e1
                        have HNX2 := Aside0.mk (HNX.out (fun e => e1 (congrArg Prod.fst e)))
                        clear e1 HPF HMF HNX
                        go_wp2
                        repeat (go_quiet (fail); try go_wp2)
                        go_roundg (qe.length - (k + 1))
                        case measure => omega
                        case rel => exact ⟨k + 1, by omega, by omega, by go_num, ⟨blk_below HX.out (pw_below_drewN (Below.refl _ _) _)⟩, HNX2, ⟨(HP.out).below (pw_below_drewN (Below.refl _ _) _)⟩⟩
                    · have hktz : ¬ (k : Int) < (qe.length : Int) := by omega
                      have hkd : decide ((k : Int) < (qe.length : Int)) = false := decide_eq_false hktz
                      obtain rfl : k = qe.length := by omega
                      go_wp2
                      go_quiet (fail)
                      have HP2 := Aside0.mk ((HP.out).below (pw_below_drewN (Below.refl _ _) nq))
                      have HX2 := Aside0.mk (blk_below HX.out (pw_below_drewN (Below.refl _ _) nq))
                      clear HP HX
                      generalize (wr.drewN nq) = w7 at *
                      have hne : ((qe.length : Int) == (qe.length : Int)) = true := beq_self_eq_true _
                      have hnm : (y1, y2) ∉ qe := fun hm => by
                        obtain ⟨j, hj, he⟩ := List.getElem_of_mem hm
                        exact HNO.out j hj hj he
                      rw [ins, if_neg hnm, place_new hnm] at HRS
                      clear hnm
                      have hlq2 : (qe.length + 1) * 40 ≤ 140737488355328 := by omega
                      have hk0 : w7.cell? ⟨xb, 0, none⟩ = some (.int .i64 y1) := (blk_cell HX2.out 0).trans rfl
                      have hk1 : w7.cell? ⟨xb, 1, none⟩ = some (.int .i64 y2) := (blk_cell HX2.out 1).trans rfl
                      have hk2 : w7.cell? ⟨xb, 2, none⟩ = some (.slice none 0 0) := (blk_cell HX2.out 2).trans rfl
                      go_upto_region 21 with ((with_reducible refine gate_builtin (b := .append) (xs := #[.tmp 115, .tmp 117]) rfl ?_); at_builtin; refine Kd.R_append kT (w0 := w) w.heap.size rfl (.tmp 115) (.tmp 117) 66 65 (.agg #[.int .i64 0, .int .i64 0, .slice none 0 0]) 40 rfl Try.underlying66 info65 rfl (by decide) (by omega) (.slice (some ad) qe.length c9) qe (y1, y2) [.int .i64 y1, .int .i64 y2, .slice none 0 0] (fun k => Sq1 k ∨ w7.heap.size ≤ k) (fun _ => False) rfl rfl (M_tri _ _ _ (y1, y2)) (fun _ hk => hk.elim) (fun k hk => .inr hk) (Kd.R_mono (HP2.out).hQ (fun _ hk => .inl hk)) (HP2.out).hT.hb ((HP2.out).hT.hb).size hlq2 ?_; intro v8 w8 ho8 hb8 hg8 hat8; have HP8 := Aside0.mk ((HP2.out).appQ ho8 hg8); clear ho8 hb8 hg8 hat8 HP2)
                      clear hk0 hk1 hk2 HX2
                      go_wp2_with ((with_reducible refine gate_builtin (b := .append) (xs := #[.tmp 119, .tmp 121]) rfl ?_); at_builtin; refine Kd.R_append (Kd.int .i64) (w0 := w) w.heap.size rfl (.tmp 119) (.tmp 121) 25 3 (.int .i64 0) 8 rfl Try.underlying25 info3 rfl (by decide) (by omega) (.slice A12 re.length c12) re ((qe.length : Int)) [.int .i64 ((qe.length : Int))] (fun k => (fun k => Sr1 k ∧ k < w7.heap.size) k ∨ w8.heap.size ≤ k) (fun _ => False) rfl rfl rfl (fun _ hk => hk.elim) (fun k hk => .inr hk) (Kd.R_mono (HP8.out).hR (fun _ hk => .inl hk)) (HP8.out).hT.hb ((HP8.out).hT.hb).size hlr2 ?_; intro v9 w9 ho9 hb9 hg9 hat9; have HP9 := Aside0.mk ((HP8.out).appR ho9 hg9); clear ho9 hb9 hg9 hat9 HP8)
                      go_roundg (n - (e + 1))
                      case measure => omega
                      case rel =>
                        refine ⟨e + 1, fun k => (Sq1 k ∨ w7.heap.size ≤ k) ∧ k < w8.heap.size, fun k => (So1 k ∧ k < w7.heap.size) ∧ k < w8.heap.size, fun k => (Sr1 k ∧ k < w7.heap.size) ∨ w8.heap.size ≤ k, by omega, by omega, by go_num, ?_⟩
                        rw [HRS.out]
                        exact HP9
          · have hlez : ¬ (e : Int) < (n : Int) := by omega
            obtain rfl : e = n := by omega
            have HST2 := Aside0.mk (show (bfsTo e (stepQ la lb (mayOf any)) (sa, sb) (i + 1)).1 = o ++ [(rowTo (stepQ la lb (mayOf any)) x q e).1] ∧ (bfsTo e (stepQ la lb (mayOf any)) (sa, sb) (i + 1)).2 = (rowTo (stepQ la lb (mayOf any)) x q e).2 from by rw [HST.out]; exact ⟨rfl, rfl⟩)
            clear HST
            generalize (rowTo (stepQ la lb (mayOf any)) x q e).2 = qe at *
            generalize (rowTo (stepQ la lb (mayOf any)) x q e).1 = re at *
            have hlo : (o.length + 1) * 24 ≤ 140737488355328 := by have := HOL.out; omega
            obtain ⟨Ao, co, rfl⟩ := Kd.R_slice (HRP.out).hO
            obtain ⟨A12, c12, rfl⟩ := Kd.R_slice (HRP.out).hR
            have hz2 : wr.cell? ⟨ob, 2, none⟩ = some (.slice Ao o.length co) := (blk_cell (HRP.out).ho 2).trans rfl
            go_wp2_with ((with_reducible refine gate_builtin (b := .append) (xs := #[.tmp 125, .tmp 127]) rfl ?_); at_builtin; refine Kd.R_append (Kd.slice 3 (Kd.int .i64)) (w0 := w) w.heap.size rfl (.tmp 125) (.tmp 127) 22 25 (.slice none 0 0) 24 rfl Try.underlying22 info25 rfl (by decide) (by omega) (.slice Ao o.length co) o re [.slice A12 re.length c12] (fun k => (So k ∨ Sr k) ∨ wr.heap.size ≤ k) Sr rfl rfl ⟨_, rfl, (HRP.out).hR⟩ (fun k hk => ⟨.inl (.inr hk), fun he => (HRP.out).dor k ((HRP.out).hO.1 k he.symm) hk⟩) (fun k hk => .inr hk) (Kd.R_mono (HRP.out).hO (fun _ hk => .inl (.inl hk))) (HRP.out).hT.hb ((HRP.out).hT.hb).size hlo ?_; intro v5 w5 ho5 hb5 hg5 hat5; have HP5 := Aside0.mk ((HRP.out).appO ho5 hg5); clear ho5 hb5 hg5 hat5 HRP hz2; (obtain ⟨A5, c5, e5⟩ := Kd.R_slice (HP5.out).hO); rw [List.length_append, List.length_singleton] at e5; subst e5; have hcl : w5.cell? ⟨ob, 2, none⟩ = some (.slice Ao o.length co) := (blk_cell (HP5.out).ho 2).trans rfl; have hfz : w5.frozen? ⟨ob, 2, none⟩ = false := blk_frozen (HP5.out).ho 2)
            have HP6 := Aside0.mk ((HP5.out).put (.slice A5 (o.length + 1) c5))
            go_roundg (N - (i + 1))
            case measure => omega
            case rel =>
              refine ⟨i + 1, .slice A5 (o.length + 1) c5, fun k => Sq k ∧ k < wr.heap.size, fun k => (So k ∨ Sr k) ∨ wr.heap.size ≤ k, by omega, by omega, by go_num, ?_⟩
              rw [(HST2.out).1, (HST2.out).2]
              exact HP6
      · have hltz : ¬ (i : Int) < ((bfsTo n (stepQ la lb (mayOf any)) (sa, sb) i).2.length : Int) := by omega
        have HFin := Aside0.mk (show bfsTo n (stepQ la lb (mayOf any)) (sa, sb) N = bfsTo n (stepQ la lb (mayOf any)) (sa, sb) i by
          have := bfsTo_stays (n := n) (step := stepQ la lb (mayOf any)) (start := (sa, sb)) hlt (N - i)
          rwa [show i + (N - i) = N from by omega] at this)
        rw [HFin.out] at HRW HTAB
        generalize (bfsTo n (stepQ la lb (mayOf any)) (sa, sb) i) = bi at *
        obtain ⟨Ao, co, e5⟩ := Kd.R_slice (HRP.out).hO
        subst e5
        obtain ⟨_, hco, hco2⟩ := Kd.R_reads' (HRP.out).hO
        obtain ⟨hg, hg0, hg1⟩ := HTAB.out
        have HC := Aside0.mk (rleast_calls n 0 Ao co bi.1 wr hco2 hco hg hn hg0 (by omega) ⟨by omega, by omega⟩)
        unfold RLeastEnd at HC
        rw [← HRW.out] at HC
        clear hco hco2 hg HRW HTAB HFin hg0 hg1
        have HS4 := Aside0.mk (HRP.out).hT
        have HO4 := Aside0.mk (HRP.out).ho
        clear HRP
        obtain ⟨hz0, hz1, hz2⟩ := box_cells HO4.out
        go_wp2_with fail
        refine HC.out.mono ?_
        rintro E w5 ⟨ov2, So2, rfl, ho2, hb⟩
        obtain ⟨A2, c2, rfl⟩ := Kd.R_slice ho2
        have HR2 := Aside0.mk (Kd.R_lower ho2 (HS4.out).hb.size)
        have HS5 := Aside0.mk ((HS4.out).below hb)
        have HO5 := Aside0.mk (blk_below HO4.out hb)
        clear ho2 hb HS4 HO4 hz0 hz1 hz2 HC
        obtain ⟨hz0, hz1, hz2⟩ := box_cells HO5.out
        obtain ⟨hf0, hf1, hf2⟩ := box_free HO5.out
        go_upto_region 25 with (fail)
        have hgr := put3_grown w5 ob (.int .i64 n) (.int .i64 0) (.slice A2 rows.length c2)
        have HR6 := Aside0.mk (R_offrow HR2.out HO5.out (by simp [Kd.slice, Kd.int, Kd.scalar]) hgr)
        have HS6 := Aside0.mk ((HS5.out).row hgr (fun k hk => by cases hk; exact .inl HOB.out))
        have HO6 := Aside0.mk (put3_blk HO5.out (.int .i64 n) (.int .i64 0) (.slice A2 rows.length c2))
        clear HR2 HS5 HO5 hgr hz0 hz1 hz2 hf0 hf1 hf2
        unfold put3 at HR6 HS6 HO6
        generalize (((w5.setCell ⟨ob, 0, none⟩ (.int .i64 n)).setCell ⟨ob, 1, none⟩ (.int .i64 0)).setCell ⟨ob, 2, none⟩ (.slice A2 rows.length c2)) = w6 at *
        obtain ⟨hz0, hz1, hz2⟩ := box_cells HO6.out
        obtain ⟨hc0, hc1, hc2⟩ := box_cells (HS6.out).hr
        obtain ⟨hf0, hf1, hf2⟩ := box_free (HS6.out).hr
        by_cases h64 : 64 < rows.length
        · have hz : (rows.length : Int) > 64 := by omega
          have HE2 := Aside0.mk ((HE.out).1 h64)
          clear HE h64
          go_wp2
          have hblk := put3_blk (HS6.out).hr (.int .i64 0) (.int .i64 0) (.slice none 0 0)
          have hbl := pw_below_grown (HS6.out).hb _ (HS6.out).hb.size (put3_grown w6 (w.heap.size + 2) (.int .i64 0) (.int .i64 0) (.slice none 0 0)) (fun k hk => by cases hk; omega)
          unfold put3 at hblk hbl
          refine bodyPost_ret (results_row_tmp rfl _ _ (w.heap.size + 2) 24 #[.int .i64 0, .int .i64 0, .slice none 0 0] (0, 0) _ rfl hblk Try.underlying24 rfl (by kernel_rfl)) rfl ?_
          rw [HE2.out]
          exact ⟨none, 0, fun _ => False, rfl, Kd.R_nil _ _ _ _ _, hbl⟩
        · have hz : ¬ (rows.length : Int) > 64 := by omega
          have HE2 := Aside0.mk ((HE.out).2 h64)
          clear HE h64
          go_wp2
          have hblk := put3_blk (HS6.out).hr (.int .i64 n) (.int .i64 0) (.slice A2 rows.length c2)
          have hgr := put3_grown w6 (w.heap.size + 2) (.int .i64 n) (.int .i64 0) (.slice A2 rows.length c2)
          have hbl := pw_below_grown (HS6.out).hb _ (HS6.out).hb.size hgr (fun k hk => by cases hk; omega)
          have hR := R_offrow HR6.out (HS6.out).hr (by simp [Kd.slice, Kd.int, Kd.scalar]) hgr
          unfold put3 at hblk hbl hR
          refine bodyPost_ret (results_row_tmp rfl _ _ (w.heap.size + 2) 24 #[.int .i64 n, .int .i64 0, .slice A2 rows.length c2] (0, 0) _ rfl hblk Try.underlying24 rfl (by kernel_rfl)) rfl ?_
          rw [HE2.out]
          exact ⟨A2, c2, So2, rfl, hR, hbl⟩
  · have HE := Aside0.mk (show ProdEnd (mayOf any) ea sa la eb sb lb = SpecEnd (pairVal ea sa la eb sb lb) 0 0 [] from by simp [ProdEnd, pErr, pEv, pRows, hp])
    generalize pairVal ea sa la eb sb lb = v at *
    have hv : (v == 0) = false := beq_eq_false_iff_ne.2 hp
    have hv2 : (v != 0) = true := bne_iff_ne.2 hp
    clear hp
    go_enter Try.func53, Try.ntmps53
    go_upto_region 1 with (fail)
    have HS := TB.start w #[.int .i64 ea, .int .i64 sa, .slice A la.length ca] #[.int .i64 eb, .int .i64 sb, .slice B lb.length cb]
    generalize (((w.alloc (.cells #[.int .i64 ea, .int .i64 sa, .slice A la.length ca] 24)).alloc (.cells #[.int .i64 eb, .int .i64 sb, .slice B lb.length cb] 24)).alloc (.cells #[.int .i64 0, .int .i64 0, .slice none 0 0] 24)) = w0 at *
    obtain ⟨hc0, hc1, hc2⟩ := box_cells HS.ha
    obtain ⟨hd0, hd1, hd2⟩ := box_cells HS.hbb
    go_wp2_with fail
    refine (H1.out _ HS.hb).mono ?_
    rintro E w1 ⟨rfl, hb⟩
    have HS1 := HS.below hb
    clear hb HS hc0 hc1 hc2 hd0 hd1 hd2 H1
    obtain ⟨hc0, hc1, hc2⟩ := box_cells HS1.hr
    obtain ⟨hf0, hf1, hf2⟩ := box_free HS1.hr
    go_wp2
    have hblk := put3_blk HS1.hr (.int .i64 0) (.int .i64 0) (.slice none 0 0)
    have hbl := pw_below_grown HS1.hb _ HS1.hb.size (put3_grown w1 (w.heap.size + 2) (.int .i64 0) (.int .i64 0) (.slice none 0 0)) (fun k hk => by cases hk; omega)
    unfold put3 at hblk hbl
    refine bodyPost_ret (results_row_tmp rfl _ _ (w.heap.size + 2) 24 #[.int .i64 0, .int .i64 0, .slice none 0 0] (0, 0) _ rfl hblk Try.underlying24 rfl (by kernel_rfl)) rfl ?_
    rw [HE.out]
    exact ⟨none, 0, fun _ => False, rfl, Kd.R_nil _ _ _ _ _, hbl⟩
end Go.Proofs.Ytmphigeefppfpaa.H
/- The reference's Both and Any; the row SpecBoth. -/
namespace Go.Proofs.Ytmphigeefppfpaa.H
open Go.RowKit Go.Proofs.YtmphigeefppfpaaW.PrintWords Go.Proofs.YtmphigeefppfpaaW.PrintLast Go.Proofs.YtmphigeefppfpaaW.PrintMore
set_option linter.unusedVariables false

set_option maxHeartbeats 1000000 in
theorem rboth_calls (ea sa : Int) (A : Option Addr) (ca : Nat) (la : List (List Int)) (eb sb : Int) (B : Option Addr) (cb : Nat) (lb : List (List Int)) (w : World)
    (hra : Kd.C (Kd.slice 3 (Kd.int .i64)) w A la.length la) (hca : la.length ≤ ca) (hrb : Kd.C (Kd.slice 3 (Kd.int .i64)) w B lb.length lb) (hcb : lb.length ≤ cb) :
    Calls Try.prog 30 #[.agg #[.int .i64 ea, .int .i64 sa, .slice A la.length ca], .agg #[.int .i64 eb, .int .i64 sb, .slice B lb.length cb]] w (ProdEnd mayBoth ea sa la eb sb lb w) := by
  have H1 := Aside0.mk fun W (hW : Below w.heap.size w W) => rproduct_calls false ea sa A ca la eb sb B cb lb W (Kd.C_below hra hW) hca (Kd.C_below hrb hW) hcb
  rw [show mayOf false = mayBoth from rfl] at H1
  unfold ProdEnd SpecEnd at H1
  unfold ProdEnd
  generalize pErr mayBoth ea sa la eb sb lb = err at *
  generalize pEv mayBoth ea sa la eb sb lb = n at *
  generalize pRows mayBoth ea sa la eb sb lb = rows at *
  clear hra hca hrb hcb
  go_enter Try.func30, Try.ntmps30
  go_upto_region 1 with (fail)
  have HS := TB.start w #[.int .i64 ea, .int .i64 sa, .slice A la.length ca] #[.int .i64 eb, .int .i64 sb, .slice B lb.length cb]
  generalize (((w.alloc (.cells #[.int .i64 ea, .int .i64 sa, .slice A la.length ca] 24)).alloc (.cells #[.int .i64 eb, .int .i64 sb, .slice B lb.length cb] 24)).alloc (.cells #[.int .i64 0, .int .i64 0, .slice none 0 0] 24)) = w0 at *
  obtain ⟨hc0, hc1, hc2⟩ := box_cells HS.ha
  obtain ⟨hd0, hd1, hd2⟩ := box_cells HS.hbb
  go_wp2_with fail
  refine (H1.out _ HS.hb).mono ?_
  rintro E w1 ⟨A2, c2, S2, rfl, ho, hb⟩
  have HO2 := Aside0.mk (Kd.R_lower ho HS.hb.size)
  have HS1 := HS.below hb
  clear hb ho HS hc0 hc1 hc2 hd0 hd1 hd2 H1
  obtain ⟨hc0, hc1, hc2⟩ := box_cells HS1.hr
  obtain ⟨hf0, hf1, hf2⟩ := box_free HS1.hr
  go_wp2
  have hblk := put3_blk HS1.hr (.int .i64 n) (.int .i64 0) (.slice A2 rows.length c2)
  have hgr := put3_grown w1 (w.heap.size + 2) (.int .i64 n) (.int .i64 0) (.slice A2 rows.length c2)
  have hbl := pw_below_grown HS1.hb _ HS1.hb.size hgr (fun k hk => by cases hk; omega)
  have hR := R_offrow HO2.out HS1.hr (by simp [Kd.slice, Kd.int, Kd.scalar]) hgr
  unfold put3 at hblk hbl hR
  refine bodyPost_ret (results_row_tmp rfl _ _ (w.heap.size + 2) 24 #[.int .i64 n, .int .i64 0, .slice A2 rows.length c2] (0, 0) _ rfl hblk Try.underlying24 rfl (by kernel_rfl)) rfl ?_
  exact ⟨A2, c2, S2, rfl, hR, hbl⟩

set_option maxHeartbeats 1000000 in
theorem rany_calls (ea sa : Int) (A : Option Addr) (ca : Nat) (la : List (List Int)) (eb sb : Int) (B : Option Addr) (cb : Nat) (lb : List (List Int)) (w : World)
    (hra : Kd.C (Kd.slice 3 (Kd.int .i64)) w A la.length la) (hca : la.length ≤ ca) (hrb : Kd.C (Kd.slice 3 (Kd.int .i64)) w B lb.length lb) (hcb : lb.length ≤ cb) :
    Calls Try.prog 32 #[.agg #[.int .i64 ea, .int .i64 sa, .slice A la.length ca], .agg #[.int .i64 eb, .int .i64 sb, .slice B lb.length cb]] w (ProdEnd mayAny ea sa la eb sb lb w) := by
  have H1 := Aside0.mk fun W (hW : Below w.heap.size w W) => rproduct_calls true ea sa A ca la eb sb B cb lb W (Kd.C_below hra hW) hca (Kd.C_below hrb hW) hcb
  rw [show mayOf true = mayAny from rfl] at H1
  unfold ProdEnd SpecEnd at H1
  unfold ProdEnd
  generalize pErr mayAny ea sa la eb sb lb = err at *
  generalize pEv mayAny ea sa la eb sb lb = n at *
  generalize pRows mayAny ea sa la eb sb lb = rows at *
  clear hra hca hrb hcb
  go_enter Try.func32, Try.ntmps32
  go_upto_region 1 with (fail)
  have HS := TB.start w #[.int .i64 ea, .int .i64 sa, .slice A la.length ca] #[.int .i64 eb, .int .i64 sb, .slice B lb.length cb]
  generalize (((w.alloc (.cells #[.int .i64 ea, .int .i64 sa, .slice A la.length ca] 24)).alloc (.cells #[.int .i64 eb, .int .i64 sb, .slice B lb.length cb] 24)).alloc (.cells #[.int .i64 0, .int .i64 0, .slice none 0 0] 24)) = w0 at *
  obtain ⟨hc0, hc1, hc2⟩ := box_cells HS.ha
  obtain ⟨hd0, hd1, hd2⟩ := box_cells HS.hbb
  go_wp2_with fail
  refine (H1.out _ HS.hb).mono ?_
  rintro E w1 ⟨A2, c2, S2, rfl, ho, hb⟩
  have HO2 := Aside0.mk (Kd.R_lower ho HS.hb.size)
  have HS1 := HS.below hb
  clear hb ho HS hc0 hc1 hc2 hd0 hd1 hd2 H1
  obtain ⟨hc0, hc1, hc2⟩ := box_cells HS1.hr
  obtain ⟨hf0, hf1, hf2⟩ := box_free HS1.hr
  go_wp2
  have hblk := put3_blk HS1.hr (.int .i64 n) (.int .i64 0) (.slice A2 rows.length c2)
  have hgr := put3_grown w1 (w.heap.size + 2) (.int .i64 n) (.int .i64 0) (.slice A2 rows.length c2)
  have hbl := pw_below_grown HS1.hb _ HS1.hb.size hgr (fun k hk => by cases hk; omega)
  have hR := R_offrow HO2.out HS1.hr (by simp [Kd.slice, Kd.int, Kd.scalar]) hgr
  unfold put3 at hblk hbl hR
  refine bodyPost_ret (results_row_tmp rfl _ _ (w.heap.size + 2) 24 #[.int .i64 n, .int .i64 0, .slice A2 rows.length c2] (0, 0) _ rfl hblk Try.underlying24 rfl (by kernel_rfl)) rfl ?_
  exact ⟨A2, c2, S2, rfl, hR, hbl⟩

theorem prod_good (may : Int → Int → Bool) (ea sa : Int) (la : List (List Int)) (eb sb : Int) (lb : List (List Int)) : GoodAns (pErr may ea sa la eb sb lb) (pEv may ea sa la eb sb lb) 0 (pRows may ea sa la eb sb lb) := by
  by_cases h : pErr may ea sa la eb sb lb = 0
  · obtain ⟨ha, hb, rfl, hl⟩ := pErr_zero h
    rw [show pEv may ea sa la ea sb lb = ea from if_pos h, show pRows may ea sa la ea sb lb = prodRows ea sa sb la lb may from if_pos h]
    exact .inl ⟨h, prod_spec ha hb hl⟩
  · exact .inr ⟨h, if_neg h, rfl, if_neg h⟩
def SomeBool (w : World) (E : Ending) (w' : World) : Prop := ∃ b : Bool, E = .returned (.bool b) ∧ Below w.heap.size w w'
theorem many_calls (ea sa : Int) (A : Option Addr) (ca : Nat) (la : List (List Int)) (eb sb : Int) (B : Option Addr) (cb : Nat) (lb : List (List Int)) (w : World)
    (hra : Kd.C (Kd.slice 3 (Kd.int .i64)) w A la.length la) (hca : la.length ≤ ca) (hrb : Kd.C (Kd.slice 3 (Kd.int .i64)) w B lb.length lb) (hcb : lb.length ≤ cb) :
    Calls Try.prog 22 #[.agg #[.int .i64 ea, .int .i64 sa, .slice A la.length ca], .agg #[.int .i64 eb, .int .i64 sb, .slice B lb.length cb]] w (SomeBool w) := by
  have h : ∃ b, Ev (fun k => Q.virgationlaw11_many.f k ea sa la eb sb lb) b := by
    unfold Q.virgationlaw11_many.f
    cases h1 : specOk ea sa la with
    | false => exact ⟨_, Ev.bind (is_ev ea sa la (lens_of_C hra)) (by rw [h1]; simp only [Bool.false_eq_true, if_false]; exact Ev.now _)⟩
    | true =>
      cases h2 : specOk eb sb lb with
      | false => exact ⟨_, Ev.bind (is_ev ea sa la (lens_of_C hra)) (by rw [h1]; simp only [if_true]; exact Ev.bind (is_ev eb sb lb (lens_of_C hrb)) (by rw [h2]; simp only [Bool.false_eq_true, if_false]; exact Ev.now _))⟩
      | true => exact ⟨_, Ev.bind (is_ev ea sa la (lens_of_C hra)) (by rw [h1]; simp only [if_true]; exact Ev.bind (is_ev eb sb lb (lens_of_C hrb)) (by rw [h2]; simp only [if_true]; exact Ev.now _))⟩
  obtain ⟨b, hb⟩ := h
  obtain ⟨k, hk⟩ := hb.rounds
  exact (Q.virgationlaw11_many.calls k ea sa A ca la eb sb B cb lb b w hra hca hrb hcb hk).mono fun E w' h => ⟨b, h⟩

set_option maxHeartbeats 4000000 in
theorem specBoth_calls (ea sa : Int) (A : Option Addr) (ca : Nat) (la : List (List Int)) (eb sb : Int) (B : Option Addr) (cb : Nat) (lb : List (List Int)) (w : World)
    (hra : Kd.C (Kd.slice 3 (Kd.int .i64)) w A la.length la) (hca : la.length ≤ ca) (hrb : Kd.C (Kd.slice 3 (Kd.int .i64)) w B lb.length lb) (hcb : lb.length ≤ cb) :
    Calls Try.prog 9 #[.agg #[.int .i64 ea, .int .i64 sa, .slice A la.length ca], .agg #[.int .i64 eb, .int .i64 sb, .slice B lb.length cb]] w fun e w' => e = .returned (.bool true) ∧ Below w.heap.size w w' := by
  have H0 := Aside0.mk fun W (hW : Below w.heap.size w W) => many_calls ea sa A ca la eb sb B cb lb W (Kd.C_below hra hW) hca (Kd.C_below hrb hW) hcb
  have H1 := Aside0.mk fun W (hW : Below w.heap.size w W) => both_calls ea sa A ca la eb sb B cb lb W (Kd.C_below hra hW) hca (Kd.C_below hrb hW) hcb
  have H2 := Aside0.mk fun W (hW : Below w.heap.size w W) => rboth_calls ea sa A ca la eb sb B cb lb W (Kd.C_below hra hW) hca (Kd.C_below hrb hW) hcb
  have H3 := Aside0.mk fun W (hW : Below w.heap.size w W) => any_calls ea sa A ca la eb sb B cb lb W (Kd.C_below hra hW) hca (Kd.C_below hrb hW) hcb
  have H4 := Aside0.mk fun W (hW : Below w.heap.size w W) => rany_calls ea sa A ca la eb sb B cb lb W (Kd.C_below hra hW) hca (Kd.C_below hrb hW) hcb
  unfold ProdEnd at H1 H2 H3 H4
  have G1 := Aside0.mk (prod_good mayBoth ea sa la eb sb lb)
  have G3 := Aside0.mk (prod_good mayAny ea sa la eb sb lb)
  generalize pErr mayBoth ea sa la eb sb lb = eB at *
  generalize pEv mayBoth ea sa la eb sb lb = nB at *
  generalize pRows mayBoth ea sa la eb sb lb = rB at *
  generalize pErr mayAny ea sa la eb sb lb = eA at *
  generalize pEv mayAny ea sa la eb sb lb = nA at *
  generalize pRows mayAny ea sa la eb sb lb = rA at *
  unfold SomeBool at H0
  clear hra hca hrb hcb
  go_enter Try.func9, Try.ntmps9
  go_upto_region 1 with (fail)
  have HS := ((Bx.start w).alloc #[.int .i64 ea, .int .i64 sa, .slice A la.length ca]).alloc #[.int .i64 eb, .int .i64 sb, .slice B lb.length cb]
  have hsz : (w.alloc (.cells #[.int .i64 ea, .int .i64 sa, .slice A la.length ca] 24)).heap.size = w.heap.size + 1 := by simp
  rw [hsz] at HS
  clear hsz
  generalize ((w.alloc (.cells #[.int .i64 ea, .int .i64 sa, .slice A la.length ca] 24)).alloc (.cells #[.int .i64 eb, .int .i64 sb, .slice B lb.length cb] 24)) = w0 at *
  obtain ⟨hc0, hc1, hc2⟩ := HS.cell (b := w.heap.size) mem1
  obtain ⟨hd0, hd1, hd2⟩ := HS.cell (b := w.heap.size + 1) List.mem_cons_self
  go_wp2_with fail
  refine (H0.out _ HS.hb).mono ?_
  rintro E w1 ⟨b, rfl, hb⟩
  have HS1 := HS.below hb
  clear hb HS hc0 hc1 hc2 hd0 hd1 hd2 H0
  cases b with
  | true =>
    clear H1 H2 H3 H4 G1 G3
    go_wp2_with fail
    refine (alive_calls _).mono ?_
    rintro E w9 ⟨rfl, hb⟩
    have HS9 := HS1.below hb
    go_wp2
    go_ret
    exact ⟨rfl, HS9.hb⟩
  | false =>
    obtain ⟨hc0, hc1, hc2⟩ := HS1.cell (b := w.heap.size) (List.mem_cons_of_mem _ List.mem_cons_self)
    obtain ⟨hd0, hd1, hd2⟩ := HS1.cell (b := w.heap.size + 1) List.mem_cons_self
    go_wp2_with fail
    refine (H1.out _ HS1.hb).mono ?_
    rintro E w2 hE
    obtain ⟨A2, c2, hcc2, rfl, HS2⟩ := HS1.spec hE
    clear hE HS1 H1 hc0 hc1 hc2 hd0 hd1 hd2
    go_upto_region 4 with (fail)
    have HS3 := HS2.alloc #[.int .i64 nB, .int .i64 0, .slice A2 rB.length c2]
    clear HS2
    generalize (w2.alloc (.cells #[.int .i64 nB, .int .i64 0, .slice A2 rB.length c2] 24)) = w3 at *
    generalize w2.heap.size = b2 at *
    obtain ⟨hc0, hc1, hc2⟩ := HS3.cell (b := w.heap.size) (List.mem_cons_of_mem _ (List.mem_cons_of_mem _ List.mem_cons_self))
    obtain ⟨hd0, hd1, hd2⟩ := HS3.cell (b := w.heap.size + 1) (List.mem_cons_of_mem _ List.mem_cons_self)
    go_wp2_with fail
    refine (H2.out _ HS3.hb).mono ?_
    rintro E w4 hE
    obtain ⟨A3, c3, hcc3, rfl, HS4⟩ := HS3.spec hE
    clear hE HS3 H2 hc0 hc1 hc2 hd0 hd1 hd2
    go_upto_region 5 with (fail)
    have HS5 := HS4.alloc #[.int .i64 nB, .int .i64 0, .slice A3 rB.length c3]
    clear HS4
    generalize (w4.alloc (.cells #[.int .i64 nB, .int .i64 0, .slice A3 rB.length c3] 24)) = w5 at *
    generalize w4.heap.size = b3 at *
    obtain ⟨hc0, hc1, hc2⟩ := HS5.cell (b := w.heap.size) (List.mem_cons_of_mem _ (List.mem_cons_of_mem _ (List.mem_cons_of_mem _ List.mem_cons_self)))
    obtain ⟨hd0, hd1, hd2⟩ := HS5.cell (b := w.heap.size + 1) (List.mem_cons_of_mem _ (List.mem_cons_of_mem _ List.mem_cons_self))
    go_wp2_with fail
    refine (H3.out _ HS5.hb).mono ?_
    rintro E w6 hE
    obtain ⟨A4, c4, hcc4, rfl, HS6⟩ := HS5.spec hE
    clear hE HS5 H3 hc0 hc1 hc2 hd0 hd1 hd2
    go_upto_region 6 with (fail)
    have HS7 := HS6.alloc #[.int .i64 nA, .int .i64 0, .slice A4 rA.length c4]
    clear HS6
    generalize (w6.alloc (.cells #[.int .i64 nA, .int .i64 0, .slice A4 rA.length c4] 24)) = w7 at *
    generalize w6.heap.size = b4 at *
    obtain ⟨hc0, hc1, hc2⟩ := HS7.cell (b := w.heap.size) (List.mem_cons_of_mem _ (List.mem_cons_of_mem _ (List.mem_cons_of_mem _ (List.mem_cons_of_mem _ List.mem_cons_self))))
    obtain ⟨hd0, hd1, hd2⟩ := HS7.cell (b := w.heap.size + 1) (List.mem_cons_of_mem _ (List.mem_cons_of_mem _ (List.mem_cons_of_mem _ List.mem_cons_self)))
    go_wp2_with fail
    refine (H4.out _ HS7.hb).mono ?_
    rintro E w8 hE
    obtain ⟨A5, c5, hcc5, rfl, HS8⟩ := HS7.spec hE
    clear hE HS7 H4 hc0 hc1 hc2 hd0 hd1 hd2
    go_upto_region 7 with (fail)
    have HS9 := HS8.alloc #[.int .i64 nA, .int .i64 0, .slice A5 rA.length c5]
    clear HS8
    generalize (w8.alloc (.cells #[.int .i64 nA, .int .i64 0, .slice A5 rA.length c5] 24)) = w9 at *
    generalize w8.heap.size = b5 at *
    obtain ⟨hc0, hc1, hc2⟩ := HS9.cell (b := b2) (List.mem_cons_of_mem _ (List.mem_cons_of_mem _ (List.mem_cons_of_mem _ List.mem_cons_self)))
    obtain ⟨hd0, hd1, hd2⟩ := HS9.cell (b := b3) (List.mem_cons_of_mem _ (List.mem_cons_of_mem _ List.mem_cons_self))
    go_wp2_with fail
    refine (is_true eB nB 0 rB A2 c2 A3 c3 _ (HS9.hc (A2, rB) (List.mem_cons_of_mem _ (List.mem_cons_of_mem _ (List.mem_cons_of_mem _ List.mem_cons_self)))) hcc2 (HS9.hc (A3, rB) (List.mem_cons_of_mem _ (List.mem_cons_of_mem _ List.mem_cons_self))) hcc3 G1.out).mono ?_
    rintro E w10 ⟨rfl, hb⟩
    have HS10 := HS9.below hb
    clear hb HS9 hc0 hc1 hc2 hd0 hd1 hd2 G1
    obtain ⟨hc0, hc1, hc2⟩ := HS10.cell (b := b4) (List.mem_cons_of_mem _ List.mem_cons_self)
    obtain ⟨hd0, hd1, hd2⟩ := HS10.cell (b := b5) List.mem_cons_self
    go_wp2_with fail
    refine (is_true eA nA 0 rA A4 c4 A5 c5 _ (HS10.hc (A4, rA) (List.mem_cons_of_mem _ List.mem_cons_self)) hcc4 (HS10.hc (A5, rA) List.mem_cons_self) hcc5 G3.out).mono ?_
    rintro E w11 ⟨rfl, hb⟩
    have HS11 := HS10.below hb
    clear hb HS10 hc0 hc1 hc2 hd0 hd1 hd2 G3
    go_wp2_with fail
    refine (alive_calls _).mono ?_
    rintro E w12 ⟨rfl, hb⟩
    have HS12 := HS11.below hb
    go_wp2
    go_ret
    exact ⟨rfl, HS12.hb⟩
end Go.Proofs.Ytmphigeefppfpaa.H
